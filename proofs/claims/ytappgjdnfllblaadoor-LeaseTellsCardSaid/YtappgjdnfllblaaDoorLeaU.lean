
/- Lease: two desks, their clocks and a network in memory. -/
import Derived.Test.YtappgjdnfllblaaDoorLeaTa
set_option linter.unusedSimpArgs false
set_option linter.unusedVariables false
namespace Go.Proofs.YtappgjdnfllblaaDoor
open Go.RowKit Go.IntWalk Go.Maps Go.WideMaps
/-- Where a desk lies. -/
structure DM where
  x : Nat
  b : Nat
  mh : Nat
  mg : Nat
  v : Value
abbrev LdM (w : World) (m : DM) (d : LDk) : Prop := Ld w m.x m.b m.v m.mh m.mg d
/-- No map of the one is a map of the other. -/
def Apart2 (m n : DM) : Prop := m.mh ≠ n.mh ∧ m.mh ≠ n.mg ∧ m.mg ≠ n.mh ∧ m.mg ≠ n.mg
/-- Where a pair lies. -/
structure PM where
  px : Nat
  gd : Nat
  ga : Nat
  nn : Nat
  xn : Nat
  A : DM
  B : DM
  vn : Value
structure Pl (w0 wx : World) (m : PM) (s : LS) : Prop where
  below : Below w0.heap.size w0 wx
  lo : w0.heap.size ≤ m.px ∧ w0.heap.size ≤ m.gd ∧ w0.heap.size ≤ m.ga ∧ w0.heap.size ≤ m.nn ∧ w0.heap.size ≤ m.xn ∧ w0.heap.size ≤ m.A.x ∧ w0.heap.size ≤ m.B.x
  hn : m.xn ≤ wx.heap.size
  bp : Blk wx m.px 68 #[.slice (some ⟨m.gd, 0, none⟩) 2 2, .pointer (some ⟨m.nn, 0, none⟩), .int .i64 s.time, .slice (some ⟨m.ga, 0, none⟩) 2 2]
  bd : Blk wx m.gd 29 #[.pointer (some ⟨m.A.b, 0, none⟩), .pointer (some ⟨m.B.b, 0, none⟩)]
  bg : Blk wx m.ga 3 #[.int .i64 s.a0, .int .i64 s.a1]
  la : LdM wx m.A s.da
  lb : LdM wx m.B s.db
  sep : Apart2 m.A m.B
  ra : m.A.v.ownBlock ≠ some m.ga
  rb : m.B.v.ownBlock ≠ some m.ga
  nt : Nt wx m.xn m.nn m.vn s.F s.sp
section
variable {w w' w0 wx wy : World} {m : PM} {s : LS} {d : LDk} {base b : Nat} {v : Value} {mh mg : Nat}
theorem Ld.chg {S : Nat → Prop} (h : Ld w base b v mh mg d) (C : Chg w w' S) (h1 : ¬ S b) (h2 : ¬ S mh) (h3 : ¬ S mg) (h4 : ∀ k, v.ownBlock = some k → ¬ S k) : Ld w' base b v mh mg d :=
  ⟨C.blk h.k h1, C.row h.r h4, by
    obtain ⟨D, n, ⟨es, clock, hb, r⟩, q⟩ := h.h
    exact ⟨D, n, ⟨es, clock, (C.block mh h.h.lt h2).trans hb, r⟩, q⟩, by
    obtain ⟨D, n, ⟨es, clock, hb, r⟩, q⟩ := h.g
    exact ⟨D, n, ⟨es, clock, (C.block mg h.g.lt h3).trans hb, r⟩, q⟩, h.ha, h.ga, h.ba, h.ne⟩
theorem Nt.chg {S : Nat → Prop} {nn : Nat} {F : List Pk} {sp : Int} (h : Nt w base nn v F sp) (C : Chg w w' S) (hb : ¬ S nn) (hv : ∀ g, v.ownBlock = some g → ¬ S g) : Nt w' base nn v F sp :=
  ⟨C.blk h.d hb, C.row h.r hv⟩
/-- A map's block is no block of cells, and no row's. -/
theorem MK.Own.noblk {T : Type} {M : MK T} {q : Nat} {f : Int → T} {p : Int → Bool} {n : Nat} (h : M.Own w q f p n) {g : Nat} {t : TypeId} {cs : Array Value} (hb : Blk w g t cs) : ¬ g = q := h.apart hb
theorem MK.Own.norow {T : Type} {M : MK T} {q : Nat} {f : Int → T} {p : Int → Bool} {n : Nat} (h : M.Own w q f p n) {base sz k : Nat} {e : TypeId} {u : Value} {xs : List Value} (hr : w.ownsRow base e sz u k xs) : ∀ g, u.ownBlock = some g → ¬ g = q := fun g hg => by
  obtain ⟨_, cs, hb⟩ := own_blk hr g hg
  exact h.apart hb
theorem rows_apart {base base' n n' s s' : Nat} {e e' : TypeId} {v v' : Value} {xs xs' : List Value} (h : w.ownsRow base e s v n xs) (h' : w.ownsRow base' e' s' v' n' xs') (hne : e ≠ e') : ∀ g, v.ownBlock = some g → v'.ownBlock ≠ some g := by
  intro g hg e9
  obtain ⟨_, cs, hb⟩ := own_blk h g hg
  obtain ⟨_, cs', hb'⟩ := own_blk h' g e9
  exact Blk.ne_ hb hb' hne rfl
theorem Pl.step (h : Pl w0 wx m s) (hb : Below wx.heap.size wx wy) : Pl w0 wy m s :=
  ⟨h.below.trans (hb.mono h.below.size), h.lo, Nat.le_trans h.hn hb.size, h.bp.below hb h.bp.lt, h.bd.below hb h.bd.lt, h.bg.below hb h.bg.lt, h.la.below hb, h.lb.below hb, h.sep, h.ra, h.rb, h.nt.below hb⟩
theorem Pl.drew (h : Pl w0 wx m s) : Pl w0 wx.drew m s := h.step (by (repeat (first | exact Below.refl _ _ | assumption | refine below_drewN ?_ _ | refine Below.drew ?_ | refine Below.alloc ?_ (by (try simp); (try omega)) _ | refine Below.setCell ?_ (by (try simp); (try omega)) _)))
theorem Pl.alloc (h : Pl w0 wx m s) (o : Obj) : Pl w0 (wx.alloc o) m s := h.step (by (repeat (first | exact Below.refl _ _ | assumption | refine below_drewN ?_ _ | refine Below.drew ?_ | refine Below.alloc ?_ (by (try simp); (try omega)) _ | refine Below.setCell ?_ (by (try simp); (try omega)) _)))
theorem Pl.desk0 (h : Pl w0 wx m s) {q : Nat} (hq : q = m.A.mh ∨ q = m.A.mg) (hd : LdM wy m.A d) (hg : wx.grownBy wy (some q)) : Pl w0 wy m { s with da := d } := by
  have C : Chg wx wy (fun k => k = q) := Chg.of_grown hg (fun k e => by injection e)
  have nb : ∀ {g : Nat} {t : TypeId} {cs : Array Value}, Blk wx g t cs → ¬ g = q := fun hb => by
    rcases hq with rfl | rfl
    · exact h.la.h.noblk hb
    · exact h.la.g.noblk hb
  have nr : ∀ {base n sz : Nat} {e : TypeId} {u : Value} {xs : List Value}, wx.ownsRow base e sz u n xs → ∀ g, u.ownBlock = some g → ¬ g = q := fun hr g hg => by
    obtain ⟨_, cs, hb⟩ := own_blk hr g hg
    exact nb hb
  obtain ⟨s1, s2, s3, s4⟩ := h.sep
  refine ⟨C.low h.below (fun k hk => ?_), h.lo, Nat.le_trans h.hn C.size, C.blk h.bp (nb h.bp), C.blk h.bd (nb h.bd), C.blk h.bg (nb h.bg), hd, h.lb.chg C (nb h.lb.k) ?_ ?_ (nr h.lb.r), h.sep, h.ra, h.rb, h.nt.chg C (nb h.nt.d) (nr h.nt.r)⟩
  · have hk : k = q := hk
    have := h.la.ha; have := h.la.ga; have := h.lo
    rcases hq with e | e <;> omega
  · intro e; have e : m.B.mh = q := e; rcases hq with e2 | e2 <;> omega
  · intro e; have e : m.B.mg = q := e; rcases hq with e2 | e2 <;> omega
theorem Pl.desk1 (h : Pl w0 wx m s) {q : Nat} (hq : q = m.B.mh ∨ q = m.B.mg) (hd : LdM wy m.B d) (hg : wx.grownBy wy (some q)) : Pl w0 wy m { s with db := d } := by
  have C : Chg wx wy (fun k => k = q) := Chg.of_grown hg (fun k e => by injection e)
  have nb : ∀ {g : Nat} {t : TypeId} {cs : Array Value}, Blk wx g t cs → ¬ g = q := fun hb => by
    rcases hq with rfl | rfl
    · exact h.lb.h.noblk hb
    · exact h.lb.g.noblk hb
  have nr : ∀ {base n sz : Nat} {e : TypeId} {u : Value} {xs : List Value}, wx.ownsRow base e sz u n xs → ∀ g, u.ownBlock = some g → ¬ g = q := fun hr g hg => by
    obtain ⟨_, cs, hb⟩ := own_blk hr g hg
    exact nb hb
  obtain ⟨s1, s2, s3, s4⟩ := h.sep
  refine ⟨C.low h.below (fun k hk => ?_), h.lo, Nat.le_trans h.hn C.size, C.blk h.bp (nb h.bp), C.blk h.bd (nb h.bd), C.blk h.bg (nb h.bg), h.la.chg C (nb h.la.k) ?_ ?_ (nr h.la.r), hd, h.sep, h.ra, h.rb, h.nt.chg C (nb h.nt.d) (nr h.nt.r)⟩
  · have hk : k = q := hk
    have := h.lb.ha; have := h.lb.ga; have := h.lo
    rcases hq with e | e <;> omega
  · intro e; have e : m.A.mh = q := e; rcases hq with e2 | e2 <;> omega
  · intro e; have e : m.A.mg = q := e; rcases hq with e2 | e2 <;> omega
theorem Pl.net (h : Pl w0 wx m s) {vn' : Value} {F' : List Pk} {sp' : Int} (N : Nt wy m.xn m.nn vn' F' sp') (C : Chg wx wy (NetS m.nn m.vn)) : Pl w0 wy { m with vn := vn' } { s with F := F', sp := sp' } := by
  have hbn : ∀ {g : Nat} {t : TypeId} {cs : Array Value}, Blk wx g t cs → t ≠ 104 → t ≠ 106 → ¬ NetS m.nn m.vn g := by
    intro g t cs hb h1 h2 e
    rcases e with rfl | e
    · exact Blk.ne_ hb h.nt.d h1 rfl
    · exact own_blk_ne h.nt.r hb (fun e => h2 e.symm) e
  have hrn : ∀ {base n s : Nat} {e : TypeId} {v : Value} {xs : List Value}, wx.ownsRow base e s v n xs → e ≠ 104 → e ≠ 106 → ∀ g, v.ownBlock = some g → ¬ NetS m.nn m.vn g := by
    intro base n s e v xs ho h1 h2 g hg
    obtain ⟨_, cs, hb⟩ := own_blk ho g hg
    exact hbn hb h1 h2
  have hmn : ∀ {T : Type} {M : MK T} {q : Nat} {f : Int → T} {p : Int → Bool} {n : Nat}, M.Own wx q f p n → ¬ NetS m.nn m.vn q := by
    intro T M q f p n hm e
    rcases e with rfl | e
    · exact hm.apart h.nt.d rfl
    · obtain ⟨_, cs, hb⟩ := own_blk h.nt.r q e
      exact hm.apart hb rfl
  exact ⟨C.low h.below (fun k hk => by
      rcases hk with rfl | hk
      · exact h.lo.2.2.2.1
      · exact Nat.le_trans h.lo.2.2.2.2.1 (h.nt.r.lt k hk).1), h.lo, Nat.le_trans h.hn C.size, C.blk h.bp (hbn h.bp (by decide) (by decide)), C.blk h.bd (hbn h.bd (by decide) (by decide)), C.blk h.bg (hbn h.bg (by decide) (by decide)),
    h.la.chg C (hbn h.la.k (by decide) (by decide)) (hmn h.la.h) (hmn h.la.g) (hrn h.la.r (by decide) (by decide)), h.lb.chg C (hbn h.lb.k (by decide) (by decide)) (hmn h.lb.h) (hmn h.lb.g) (hrn h.lb.r (by decide) (by decide)), h.sep, h.ra, h.rb, N⟩
/-- A cell of one of the pair's own boxes is written: what lies elsewhere is as it was. -/
theorem Pl.cell_chg (h : Pl w0 wx m s) {g i : Nat} {u : Value} {t : TypeId} {cs : Array Value} (hb : Blk wx g t cs) (ht : t ≠ 83) (hna : m.A.v.ownBlock ≠ some g) (hnb : m.B.v.ownBlock ≠ some g) (htn : t ≠ 104) (htp : t ≠ 106) :
    Chg wx (wx.setCell ⟨g, i, none⟩ u) (fun k => k = g) ∧ LdM (wx.setCell ⟨g, i, none⟩ u) m.A s.da ∧ LdM (wx.setCell ⟨g, i, none⟩ u) m.B s.db ∧ Nt (wx.setCell ⟨g, i, none⟩ u) m.xn m.nn m.vn s.F s.sp := by
  have C : Chg wx (wx.setCell ⟨g, i, none⟩ u) (fun k => k = g) := Chg.of_grown (gr_set wx g i u) (fun k e => by injection e)
  refine ⟨C, h.la.chg C (fun e => ?_) (fun e => ?_) (fun e => ?_) (fun k hk e => ?_), h.lb.chg C (fun e => ?_) (fun e => ?_) (fun e => ?_) (fun k hk e => ?_), h.nt.chg C (fun e => ?_) (fun k hk e => ?_)⟩
  · have e : m.A.b = g := e; subst e; exact Blk.ne_ hb h.la.k ht rfl
  · have e : m.A.mh = g := e; subst e; exact h.la.h.apart hb rfl
  · have e : m.A.mg = g := e; subst e; exact h.la.g.apart hb rfl
  · have e : k = g := e; subst e; exact hna hk
  · have e : m.B.b = g := e; subst e; exact Blk.ne_ hb h.lb.k ht rfl
  · have e : m.B.mh = g := e; subst e; exact h.lb.h.apart hb rfl
  · have e : m.B.mg = g := e; subst e; exact h.lb.g.apart hb rfl
  · have e : k = g := e; subst e; exact hnb hk
  · have e : m.nn = g := e; subst e; exact Blk.ne_ hb h.nt.d htn rfl
  · have e : k = g := e; subst e; exact own_blk_ne h.nt.r hb (fun e => htp e.symm) hk
theorem Pl.time (h : Pl w0 wx m s) (t : Int) : Pl w0 (wx.setCell ⟨m.px, 2, none⟩ (.int .i64 t)) m { s with time := t } := by
  obtain ⟨C, ha, hb, hn⟩ := h.cell_chg (i := 2) (u := .int .i64 t) h.bp (by decide) (own_blk_ne h.la.r h.bp (by decide)) (own_blk_ne h.lb.r h.bp (by decide)) (by decide) (by decide)
  refine ⟨C.low h.below (fun k hk => by have hk : k = m.px := hk; have := h.lo; omega), h.lo, Nat.le_trans h.hn C.size, ?_, C.blk h.bd (fun e => Blk.ne_ h.bd h.bp (by decide) e), C.blk h.bg (fun e => Blk.ne_ h.bg h.bp (by decide) e), ha, hb, h.sep, h.ra, h.rb, hn⟩
  have := h.bp.set_ 2 (.int .i64 t)
  simpa using this
theorem Pl.ahead0 (h : Pl w0 wx m s) (t : Int) : Pl w0 (wx.setCell ⟨m.ga, 0, none⟩ (.int .i64 t)) m { s with a0 := t } := by
  obtain ⟨C, ha, hb, hn⟩ := h.cell_chg (i := 0) (u := .int .i64 t) h.bg (by decide) h.ra h.rb (by decide) (by decide)
  refine ⟨C.low h.below (fun k hk => by have hk : k = m.ga := hk; have := h.lo; omega), h.lo, Nat.le_trans h.hn C.size, C.blk h.bp (fun e => Blk.ne_ h.bp h.bg (by decide) e), C.blk h.bd (fun e => Blk.ne_ h.bd h.bg (by decide) e), ?_, ha, hb, h.sep, h.ra, h.rb, hn⟩
  have := h.bg.set_ 0 (.int .i64 t)
  simpa using this
theorem Pl.ahead1 (h : Pl w0 wx m s) (t : Int) : Pl w0 (wx.setCell ⟨m.ga, 1, none⟩ (.int .i64 t)) m { s with a1 := t } := by
  obtain ⟨C, ha, hb, hn⟩ := h.cell_chg (i := 1) (u := .int .i64 t) h.bg (by decide) h.ra h.rb (by decide) (by decide)
  refine ⟨C.low h.below (fun k hk => by have hk : k = m.ga := hk; have := h.lo; omega), h.lo, Nat.le_trans h.hn C.size, C.blk h.bp (fun e => Blk.ne_ h.bp h.bg (by decide) e), C.blk h.bd (fun e => Blk.ne_ h.bd h.bg (by decide) e), ?_, ha, hb, h.sep, h.ra, h.rb, hn⟩
  have := h.bg.set_ 1 (.int .i64 t)
  simpa using this
/-- A desk that was read stands where the one was. -/
theorem Pl.newA (h : Pl w0 wx m s) {n : DM} (hb : Below wx.heap.size wx wy) (hx : n.x = wx.heap.size) (hd : LdM wy n d) : Pl w0 (wy.setCell ⟨m.gd, 0, none⟩ (.pointer (some ⟨n.b, 0, none⟩))) { m with A := n } { s with da := d } := by
  have h' := h.step hb
  have z := h.below.size
  have g1 := h.bd.lt
  have g2 := h.bg.lt
  obtain ⟨C, ha, hbb, hn⟩ := h'.cell_chg (i := 0) (u := .pointer (some ⟨n.b, 0, none⟩)) h'.bd (by decide) (own_blk_ne h'.la.r h'.bd (by decide)) (own_blk_ne h'.lb.r h'.bd (by decide)) (by decide) (by decide)
  have q1 := hd.ha; have q2 := hd.ga; have q3 := hd.ba
  have l1 := h.lb.h.lt; have l2 := h.lb.g.lt
  refine ⟨C.low h'.below (fun k hk => by have hk : k = m.gd := hk; have := h.lo; omega), ?_, Nat.le_trans h'.hn C.size, C.blk h'.bp (fun e => Blk.ne_ h'.bp h'.bd (by decide) e), ?_, C.blk h'.bg (fun e => Blk.ne_ h'.bg h'.bd (by decide) e), ?_, hbb, ?_, ?_, h.rb, hn⟩
  · have := h.lo; simp only; omega
  · have := h'.bd.set_ 0 (.pointer (some ⟨n.b, 0, none⟩))
    simpa using this
  · exact hd.chg C (fun e => by have e : n.b = m.gd := e; omega) (fun e => by have e : n.mh = m.gd := e; omega) (fun e => by have e : n.mg = m.gd := e; omega) (fun k hk e => by have e : k = m.gd := e; have := (hd.r.lt k hk).1; omega)
  · refine ⟨?_, ?_, ?_, ?_⟩ <;> dsimp only <;> omega
  · intro e; have : n.x ≤ m.ga := (hd.r.lt m.ga e).1; omega
theorem Pl.newB (h : Pl w0 wx m s) {n : DM} (hb : Below wx.heap.size wx wy) (hx : n.x = wx.heap.size) (hd : LdM wy n d) : Pl w0 (wy.setCell ⟨m.gd, 1, none⟩ (.pointer (some ⟨n.b, 0, none⟩))) { m with B := n } { s with db := d } := by
  have h' := h.step hb
  have z := h.below.size
  have g1 := h.bd.lt
  have g2 := h.bg.lt
  obtain ⟨C, ha, hbb, hn⟩ := h'.cell_chg (i := 1) (u := .pointer (some ⟨n.b, 0, none⟩)) h'.bd (by decide) (own_blk_ne h'.la.r h'.bd (by decide)) (own_blk_ne h'.lb.r h'.bd (by decide)) (by decide) (by decide)
  have q1 := hd.ha; have q2 := hd.ga; have q3 := hd.ba
  have l1 := h.la.h.lt; have l2 := h.la.g.lt
  refine ⟨C.low h'.below (fun k hk => by have hk : k = m.gd := hk; have := h.lo; omega), ?_, Nat.le_trans h'.hn C.size, C.blk h'.bp (fun e => Blk.ne_ h'.bp h'.bd (by decide) e), ?_, C.blk h'.bg (fun e => Blk.ne_ h'.bg h'.bd (by decide) e), ha, ?_, ?_, h.ra, ?_, hn⟩
  · have := h.lo; simp only; omega
  · have := h'.bd.set_ 1 (.pointer (some ⟨n.b, 0, none⟩))
    simpa using this
  · exact hd.chg C (fun e => by have e : n.b = m.gd := e; omega) (fun e => by have e : n.mh = m.gd := e; omega) (fun e => by have e : n.mg = m.gd := e; omega) (fun k hk e => by have e : k = m.gd := e; have := (hd.r.lt k hk).1; omega)
  · refine ⟨?_, ?_, ?_, ?_⟩ <;> dsimp only <;> omega
  · intro e; have : n.x ≤ m.ga := (hd.r.lt m.ga e).1; omega
/-- A box that a call itself made is no block of the pair's. -/
theorem Pl.box (h : Pl w0 wx m s) {g : Nat} {t : TypeId} {cs : Array Value} (hb : Blk wx g t cs) (ht : t = 26 ∨ t = 64) (hl : w0.heap.size ≤ g) (hg : wx.grownBy wy (some g)) : Pl w0 wy m s := by
  have C : Chg wx wy (fun k => k = g) := Chg.of_grown hg (fun k e => by injection e)
  have ne : ∀ {b : Nat} {t' : TypeId} {cs' : Array Value}, Blk wx b t' cs' → t' ≠ 26 → t' ≠ 64 → ¬ (b = g) := fun h1 h2 h3 e => by
    subst e
    rcases ht with rfl | rfl
    · exact Blk.ne_ h1 hb h2 rfl
    · exact Blk.ne_ h1 hb h3 rfl
  have rn : ∀ {base n s : Nat} {e : TypeId} {v : Value} {xs : List Value}, wx.ownsRow base e s v n xs → e ≠ 26 → e ≠ 64 → ∀ j, v.ownBlock = some j → ¬ (j = g) := fun h1 h2 h3 j hj => by
    obtain ⟨_, cs, hb'⟩ := own_blk h1 j hj
    exact ne hb' h2 h3
  have mn : ∀ {T : Type} {M : MK T} {q : Nat} {f : Int → T} {p : Int → Bool} {n : Nat}, M.Own wx q f p n → ¬ (q = g) := fun hm e => by subst e; exact hm.apart hb rfl
  exact ⟨C.low h.below (fun k hk => by have hk : k = g := hk; omega), h.lo, Nat.le_trans h.hn C.size, C.blk h.bp (ne h.bp (by decide) (by decide)), C.blk h.bd (ne h.bd (by decide) (by decide)), C.blk h.bg (ne h.bg (by decide) (by decide)),
    h.la.chg C (ne h.la.k (by decide) (by decide)) (mn h.la.h) (mn h.la.g) (rn h.la.r (by decide) (by decide)), h.lb.chg C (ne h.lb.k (by decide) (by decide)) (mn h.lb.h) (mn h.lb.g) (rn h.lb.r (by decide) (by decide)), h.sep, h.ra, h.rb, h.nt.chg C (ne h.nt.d (by decide) (by decide)) (rn h.nt.r (by decide) (by decide))⟩
/-- The pair's cells. -/
theorem Pl.c (h : Pl w0 wx m s) : wx.cell? ⟨m.px, 0, none⟩ = some (.slice (some ⟨m.gd, 0, none⟩) 2 2) ∧ wx.cell? ⟨m.px, 1, none⟩ = some (.pointer (some ⟨m.nn, 0, none⟩)) ∧ wx.cell? ⟨m.px, 2, none⟩ = some (.int .i64 s.time) ∧ wx.cell? ⟨m.px, 3, none⟩ = some (.slice (some ⟨m.ga, 0, none⟩) 2 2) ∧
    wx.cell? ⟨m.gd, 0, none⟩ = some (.pointer (some ⟨m.A.b, 0, none⟩)) ∧ wx.cell? ⟨m.gd, 1, none⟩ = some (.pointer (some ⟨m.B.b, 0, none⟩)) ∧ wx.cell? ⟨m.ga, 0, none⟩ = some (.int .i64 s.a0) ∧ wx.cell? ⟨m.ga, 1, none⟩ = some (.int .i64 s.a1) :=
  ⟨h.bp.cell 0, h.bp.cell 1, h.bp.cell 2, h.bp.cell 3, h.bd.cell 0, h.bd.cell 1, h.bg.cell 0, h.bg.cell 1⟩
end
end Go.Proofs.YtappgjdnfllblaaDoor
