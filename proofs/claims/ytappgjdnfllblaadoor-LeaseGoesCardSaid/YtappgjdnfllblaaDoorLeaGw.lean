
/- Lease: LeaseGoes: words of the walk. -/
import Derived.Test.YtappgjdnfllblaaDoorLeaGa
import Derived.Test.YtappgjdnfllblaaDoorLeaGb
import Derived.Deep.CutBlock
set_option linter.unusedSimpArgs false
set_option linter.unusedVariables false
namespace Go.Proofs.YtappgjdnfllblaaDoor
open Go.RowKit Go.IntWalk Go.Maps Go.WideMaps
/-- What the network's box says of its packets' number. -/
def netLen (w : World) (nn : Nat) : Nat := match w.cell? ⟨nn, 0, none⟩ with
  | some (.slice _ n _) => n
  | _ => 0
theorem netLen_of {w : World} {base nn : Nat} {v : Value} {F : List Pk} {sp : Int} (h : Nt w base nn v F sp) : netLen w nn = F.length := by
  obtain ⟨A, c, rfl, _⟩ := pk_row h.r
  unfold netLen
  rw [(nt2 h).1]
/-- What stays in a region that sends, lets arrive, and asks. -/
def SQ (px gd nn b0 b1 g : Nat) (cs : Array Value) (wq : World) : Prop :=
  wq.cell? ⟨px, 0, none⟩ = some (.slice (some ⟨gd, 0, none⟩) 2 2) ∧ wq.cell? ⟨px, 1, none⟩ = some (.pointer (some ⟨nn, 0, none⟩)) ∧ wq.cell? ⟨gd, 0, none⟩ = some (.pointer (some ⟨b0, 0, none⟩)) ∧ wq.cell? ⟨gd, 1, none⟩ = some (.pointer (some ⟨b1, 0, none⟩)) ∧ Blk wq g 26 cs
theorem Pl.sq {w0 wq : World} {m : PM} {s : LS} {g : Nat} {cs : Array Value} (h : Pl w0 wq m s) (X : Blk wq g 26 cs) : SQ m.px m.gd m.nn m.A.b m.B.b g cs wq :=
  ⟨h.c.1, h.c.2.1, h.c.2.2.2.2.1, h.c.2.2.2.2.2.1, X⟩
theorem SQ.facts {px gd nn b0 b1 g : Nat} {x0 x1 x2 x3 : Value} {wq : World} (h : SQ px gd nn b0 b1 g #[x0, x1, x2, x3] wq) : wq.cell? ⟨px, 0, none⟩ = some (.slice (some ⟨gd, 0, none⟩) 2 2) ∧ wq.cell? ⟨px, 1, none⟩ = some (.pointer (some ⟨nn, 0, none⟩)) ∧ wq.cell? ⟨gd, 0, none⟩ = some (.pointer (some ⟨b0, 0, none⟩)) ∧ wq.cell? ⟨gd, 1, none⟩ = some (.pointer (some ⟨b1, 0, none⟩)) ∧ wq.cell? ⟨g, 0, none⟩ = some x0 ∧ wq.cell? ⟨g, 1, none⟩ = some x1 ∧ wq.cell? ⟨g, 2, none⟩ = some x2 ∧ wq.cell? ⟨g, 3, none⟩ = some x3 :=
  ⟨h.1, h.2.1, h.2.2.1, h.2.2.2.1, h.2.2.2.2.cell 0, h.2.2.2.2.cell 1, h.2.2.2.2.cell 2, h.2.2.2.2.cell 3⟩
theorem Pl.newGa {w0 wx : World} {m : PM} {s : LS} (h : Pl w0 wx m s) : Pl w0 ((wx.alloc (Obj.cells #[.int .i64 2, .int .i64 0] 3)).setCell ⟨m.px, 3, none⟩ (.slice (some ⟨wx.heap.size, 0, none⟩) 2 2)) { m with ga := wx.heap.size } { s with a0 := 2, a1 := 0 } := by
  have b1 : Below wx.heap.size wx (wx.alloc (Obj.cells #[.int .i64 2, .int .i64 0] 3)) := by (repeat (first | exact Below.refl _ _ | assumption | refine below_drewN ?_ _ | refine Below.drew ?_ | refine Below.alloc ?_ (by (try simp); (try omega)) _ | refine Below.setCell ?_ (by (try simp); (try omega)) _))
  have h' := h.step b1
  have nb := Blk.new wx 3 #[.int .i64 2, .int .i64 0]
  obtain ⟨C, ha, hb, hn⟩ := h'.cell_chg (i := 3) (u := .slice (some ⟨wx.heap.size, 0, none⟩) 2 2) h'.bp (by decide) (own_blk_ne h'.la.r h'.bp (by decide)) (own_blk_ne h'.lb.r h'.bp (by decide)) (by decide) (by decide)
  have z := h.below.size
  refine ⟨C.low h'.below (fun k hk => by have hk : k = m.px := hk; have := h.lo; omega), ?_, Nat.le_trans h'.hn C.size, ?_, C.blk h'.bd (fun e => Blk.ne_ h'.bd h'.bp (by decide) e), C.blk nb (fun e => Blk.ne_ nb h'.bp (by decide) e), ha, hb, h.sep, ?_, ?_, hn⟩
  · have := h.lo; dsimp only; omega
  · have := h'.bp.set_ 3 (.slice (some ⟨wx.heap.size, 0, none⟩) 2 2)
    simpa using this
  · intro e; have := (h.la.r.lt _ e).2; dsimp only at this; omega
  · intro e; have := (h.lb.r.lt _ e).2; dsimp only at this; omega
theorem wish_call {w : World} {base b : Nat} {v : Value} {mh mg : Nat} {d : LDk} (h : Ld w base b v mh mg d) (ok : d.Ok) : Calls Tryd.prog 36 #[.pointer (some ⟨b, 0, none⟩)] w fun e w' => ∃ u, e = .returned u ∧ ∃ A c, u = .slice A (upToP (fun z => (d.hs z).2.2) d.home.length).length c ∧ SlR w' w'.heap.size A (upToP (fun z => (d.hs z).2.2) d.home.length) ∧ Below w.heap.size w w' := by
  refine (wishes_any h ok).mono ?_
  rintro e w' ⟨A, c, rfl, ho, hB⟩
  have hI : ∀ x ∈ upToP (fun z => (d.hs z).2.2) d.home.length, I64 x := by
    have hl := ok.len
    have : ∀ (N : Nat), N ≤ 64 → ∀ x ∈ upToP (fun z => (d.hs z).2.2) N, I64 x := by
      intro N
      induction N with
      | zero => intro _ x hx; simp [upToP] at hx
      | succ N ih =>
        intro hN x hx
        unfold upToP at hx
        rcases List.mem_append.1 hx with hx | hx
        · exact ih (by omega) x hx
        · split at hx
          · rw [List.mem_singleton.1 hx]; constructor <;> omega
          · cases hx
    exact this _ hl
  obtain ⟨A', c', e1, _, _, hs⟩ := ho.slr hI
  injection e1 with e1 e2 e3
  subst e1 e3
  exact ⟨_, rfl, A, c, rfl, hs, hB⟩
/-- A pair whose packets lie wherever they lie. -/
def PlV (w0 wx : World) (m : PM) (s : LS) : Prop := ∃ vn, Pl w0 wx { m with vn := vn } s
section
variable {w0 wx wy : World} {m : PM} {s : LS} {d : LDk}
theorem Pl.v (h : Pl w0 wx m s) : PlV w0 wx m s := ⟨m.vn, h⟩
theorem PlV.step (h : PlV w0 wx m s) (hb : Below wx.heap.size wx wy) : PlV w0 wy m s := by obtain ⟨vn, h⟩ := h; exact ⟨vn, h.step hb⟩
theorem PlV.below (h : PlV w0 wx m s) : Below w0.heap.size w0 wx := by obtain ⟨vn, h⟩ := h; exact h.below
theorem PlV.la (h : PlV w0 wx m s) : LdM wx m.A s.da := by obtain ⟨vn, h⟩ := h; exact h.la
theorem PlV.lb (h : PlV w0 wx m s) : LdM wx m.B s.db := by obtain ⟨vn, h⟩ := h; exact h.lb
theorem PlV.sq {px g : Nat} {cs : Array Value} (h : PlV w0 wx m s) (hp : m.px = px) (X : Blk wx g 26 cs) : SQ px m.gd m.nn m.A.b m.B.b g cs wx := by
  obtain ⟨vn, h⟩ := h
  subst hp
  exact h.sq X
theorem PlV.cc {px : Nat} (h : PlV w0 wx m s) (hp : m.px = px) : wx.cell? ⟨px, 0, none⟩ = some (.slice (some ⟨m.gd, 0, none⟩) 2 2) ∧ wx.cell? ⟨px, 1, none⟩ = some (.pointer (some ⟨m.nn, 0, none⟩)) ∧ wx.cell? ⟨m.gd, 0, none⟩ = some (.pointer (some ⟨m.A.b, 0, none⟩)) ∧ wx.cell? ⟨m.gd, 1, none⟩ = some (.pointer (some ⟨m.B.b, 0, none⟩)) ∧ px < wx.heap.size ∧ m.gd < wx.heap.size := by
  obtain ⟨vn, h⟩ := h
  subst hp
  exact ⟨h.c.1, h.c.2.1, h.c.2.2.2.2.1, h.c.2.2.2.2.2.1, h.wr.1, h.wr.2.1⟩
theorem PlV.desk0 (h : PlV w0 wx m s) {q : Nat} (hq : q = m.A.mh ∨ q = m.A.mg) (hd : LdM wy m.A d) (hg : wx.grownBy wy (some q)) : PlV w0 wy m { s with da := d } ∧ KT [26] wx wy := by
  obtain ⟨vn, h⟩ := h
  exact ⟨⟨vn, h.desk0 hq hd hg⟩, kt_map (hq.elim (fun e => by subst e; exact fun _ _ _ hb => h.la.h.apart hb) (fun e => by subst e; exact fun _ _ _ hb => h.la.g.apart hb)) hg⟩
theorem PlV.desk1 (h : PlV w0 wx m s) {q : Nat} (hq : q = m.B.mh ∨ q = m.B.mg) (hd : LdM wy m.B d) (hg : wx.grownBy wy (some q)) : PlV w0 wy m { s with db := d } ∧ KT [26] wx wy := by
  obtain ⟨vn, h⟩ := h
  exact ⟨⟨vn, h.desk1 hq hd hg⟩, kt_map (hq.elim (fun e => by subst e; exact fun _ _ _ hb => h.lb.h.apart hb) (fun e => by subst e; exact fun _ _ _ hb => h.lb.g.apart hb)) hg⟩
theorem PlV.box {g : Nat} {cs : Array Value} (h : PlV w0 wx m s) (hb : Blk wx g 26 cs) (hl : w0.heap.size ≤ g) (hg : wx.grownBy wy (some g)) : PlV w0 wy m s := by
  obtain ⟨vn, h⟩ := h
  exact ⟨vn, h.box hb (.inl rfl) hl hg⟩
theorem PlV.nb (h : PlV w0 wx m s) (he : Env w0) (n : P4) (hn : P4I n) : Calls Tryd.prog 14 #[.agg #[.int .i64 n.1, .int .i64 n.2.1, .int .i64 n.2.2.1, .int .i64 n.2.2.2]] wx fun e w' => e = .returned (.string (bs (enc4 n))) ∧ PlV w0 w' m s ∧ KT [26] wx w' :=
  (nbytes_any n.1 n.2.1 n.2.2.1 n.2.2.2 wx hn.1 hn.2.1 hn.2.2.1 hn.2.2.2 (he.below h.below)).mono fun e w' ⟨h1, h2⟩ => ⟨h1, h.step h2, KT.of_below h2⟩
theorem PlV.send (h : PlV w0 wx m s) (hsp : s.sp = 0) (hF : s.F.length < 500) (a b : Int) (str : ByteArray) (hab : Ends a b) :
    Calls Tryd.prog 45 #[.pointer (some ⟨m.nn, 0, none⟩), .int .i64 a, .int .i64 b, .string str] wx fun e w' => e = .returned (.int .i64 0) ∧ PlV w0 w' m { s with F := s.F ++ [(a, b, str)] } ∧ KT [26] wx w' := by
  obtain ⟨vn, h⟩ := h
  refine (nsend_ok h.nt hsp hF h.hn a b str hab).mono ?_
  rintro e w' ⟨x, v', rfl, rfl, N, C, _⟩
  exact ⟨rfl, ⟨v', h.net N C⟩, kt_net C h.nt⟩
theorem PlV.arr0 (h : PlV w0 wx m s) {px : Nat} (hp : m.px = px) (he : Env w0) (hsp : s.sp = 0) (n : P4) (hn : P4I n) (hF : s.F = [(1, 0, bs (enc4 n))]) (ok : s.da.Ok) {d' : LDk} (hh : hearF s.da n = (0, d')) :
    Calls Tryd.prog 46 #[.pointer (some ⟨px, 0, none⟩), .int .i64 0] wx fun e w' => e = .returned (.bool true) ∧ PlV w0 w' m { s with da := d', F := [] } ∧ KT [26] wx w' := by
  obtain ⟨vn, h⟩ := h
  subst hp
  have hl : s.F.length = 1 := by rw [hF]; rfl
  have hE : ∀ p ∈ s.F, Ends p.1 p.2.1 := by rw [hF]; intro p hp; rw [List.mem_singleton.1 hp]; unfold Ends; simp
  have := larrivek_0 h hsp (by omega) hE he 0 (by omega) n hn (by simp [hF]) ok (by rw [hh])
  refine this.mono ?_
  rintro e w' ⟨rfl, ⟨vn2, P⟩, hk⟩
  rw [hh] at P
  have e9 : s.F.eraseIdx 0 = [] := by rw [hF]; rfl
  rw [e9] at P
  exact ⟨rfl, ⟨vn2, P⟩, hk⟩
theorem PlV.arr1 (h : PlV w0 wx m s) {px : Nat} (hp : m.px = px) (he : Env w0) (hsp : s.sp = 0) (n : P4) (hn : P4I n) (hF : s.F = [(0, 1, bs (enc4 n))]) (ok : s.db.Ok) {d' : LDk} (hh : hearF s.db n = (0, d')) :
    Calls Tryd.prog 46 #[.pointer (some ⟨px, 0, none⟩), .int .i64 0] wx fun e w' => e = .returned (.bool true) ∧ PlV w0 w' m { s with db := d', F := [] } ∧ KT [26] wx w' := by
  obtain ⟨vn, h⟩ := h
  subst hp
  have hl : s.F.length = 1 := by rw [hF]; rfl
  have hE : ∀ p ∈ s.F, Ends p.1 p.2.1 := by rw [hF]; intro p hp; rw [List.mem_singleton.1 hp]; unfold Ends; simp
  have := larrivek_1 h hsp (by omega) hE he 0 (by omega) n hn (by simp [hF]) ok (by rw [hh])
  refine this.mono ?_
  rintro e w' ⟨rfl, ⟨vn2, P⟩, hk⟩
  rw [hh] at P
  have e9 : s.F.eraseIdx 0 = [] := by rw [hF]; rfl
  rw [e9] at P
  exact ⟨rfl, ⟨vn2, P⟩, hk⟩
theorem calls_kt {f : FuncId} {args : Array Value} {v : Value} (hc : Calls Tryd.prog f args wx fun e w' => e = .returned v ∧ Below wx.heap.size wx w') (h : PlV w0 wx m s) : Calls Tryd.prog f args wx fun e w' => e = .returned v ∧ PlV w0 w' m s ∧ KT [26] wx w' :=
  hc.mono fun e w' ⟨a, b⟩ => ⟨a, h.step b, KT.of_below b⟩
theorem PlV.ck (h : PlV w0 wx m s) {px : Nat} (hp : m.px = px) (ht : 0 ≤ s.time ∧ s.time ≤ 1000000000) (ha : 0 ≤ s.a0 ∧ s.a0 ≤ 2) (hb : 0 ≤ s.a1 ∧ s.a1 ≤ 2) (u : Int) (hu : u = 0 ∨ u = 1) :
    Calls Tryd.prog 41 #[.pointer (some ⟨px, 0, none⟩), .int .i64 u] wx fun e w' => e = .returned (.int .i64 (s.clock u)) ∧ PlV w0 w' m s ∧ KT [26] wx w' := by
  obtain ⟨vn, h⟩ := h
  subst hp
  rcases hu with rfl | rfl
  · exact (clock_0 h ht ha).mono fun e w' ⟨h1, h2⟩ => ⟨h1, ⟨vn, h.step h2⟩, KT.of_below h2⟩
  · exact (clock_1 h ht hb).mono fun e w' ⟨h1, h2⟩ => ⟨h1, ⟨vn, h.step h2⟩, KT.of_below h2⟩
end
end Go.Proofs.YtappgjdnfllblaaDoor
