
/- Net: the simulated network's functions. -/
import Derived.Test.YtfofmbmmighdiaaDoorSeamNb
import Derived.Test.YtfofmbmmighdiaaDoorSeamH
set_option linter.unusedSimpArgs false
set_option linter.unusedVariables false
namespace Go.Proofs.YtfofmbmmighdiaaDoor
open Go.RowKit Go.IntWalk

/-- What has changed lies in S. -/
structure Chg (w w' : World) (S : Nat → Prop) : Prop where
  os : w'.os = w.os
  tape : w'.tape = w.tape
  output : w'.output = w.output
  size : w.heap.size ≤ w'.heap.size
  block : ∀ k, k < w.heap.size → ¬ S k → w'.heap[k]? = w.heap[k]?
theorem Chg.of_below {w w' : World} (h : Below w.heap.size w w') (S : Nat → Prop) : Chg w w' S := ⟨h.os, h.tape, h.output, h.size, fun k hk _ => h.block k hk⟩
theorem Chg.of_grown {w w' : World} {r : Option Nat} (h : w.grownBy w' r) {S : Nat → Prop} (hS : ∀ k, some k = r → S k) : Chg w w' S := ⟨h.os, h.tape, h.output, h.size, fun k hk hn => h.block k hk (fun e => hn (hS k e))⟩
theorem Chg.trans {w w1 w2 : World} {S S' : Nat → Prop} (h : Chg w w1 S) (h' : Chg w1 w2 S') (hS : ∀ k, k < w.heap.size → S' k → S k) : Chg w w2 S :=
  ⟨h'.os.trans h.os, h'.tape.trans h.tape, h'.output.trans h.output, Nat.le_trans h.size h'.size, fun k hk hn => (h'.block k (Nat.lt_of_lt_of_le hk h.size) (fun e => hn (hS k hk e))).trans (h.block k hk hn)⟩
theorem Chg.blk {w w' : World} {S : Nat → Prop} (h : Chg w w' S) {g : Nat} {t : TypeId} {cs : Array Value} (hb : Blk w g t cs) (hS : ¬ S g) : Blk w' g t cs := (h.block g hb.lt hS).trans hb
theorem Chg.row {w w' : World} {S : Nat → Prop} (h : Chg w w' S) {base : Nat} {e : TypeId} {s n : Nat} {v : Value} {xs : List Value} (ho : w.ownsRow base e s v n xs) (hS : ∀ g, v.ownBlock = some g → ¬ S g) : w'.ownsRow base e s v n xs := by
  refine ⟨ho.1, ?_⟩
  rcases ho.2 with h1 | ⟨g, cap, cur, rfl, h2, h3, h4⟩
  · exact .inl h1
  · exact .inr ⟨g, cap, cur, rfl, h2, h.blk (cs := cur) h3 (hS g rfl), h4⟩
theorem Chg.low {w0 w w' : World} {S : Nat → Prop} (h : Chg w w' S) (hb : Below w0.heap.size w0 w) (hS : ∀ k, S k → w0.heap.size ≤ k) : Below w0.heap.size w0 w' :=
  hb.trans ⟨h.os, h.tape, h.output, h.size, fun k hk => h.block k (Nat.lt_of_lt_of_le hk hb.size) (fun e => by have := hS k e; omega)⟩

/-- A network: block nn, its packets' slice v. -/
structure Nt (w : World) (base nn : Nat) (v : Value) (F : List Pk) (sp : Int) : Prop where
  d : Blk w nn 104 #[v, .int .i64 sp]
  r : w.ownsRow base 76 3 v F.length (pc F)
/-- What a network's call may write. -/
def NetS (nn : Nat) (v : Value) (k : Nat) : Prop := k = nn ∨ v.ownBlock = some k
def NtRes (w : World) (base nn : Nat) (v : Value) (F : List Pk) (sp : Int) (r : Value → Prop) (e : Ending) (w' : World) : Prop :=
  ∃ x v', e = .returned x ∧ r x ∧ Nt w' base nn v' F sp ∧ Chg w w' (NetS nn v) ∧ ∀ g, v'.ownBlock = some g → v.ownBlock = some g ∨ w.heap.size ≤ g
section
variable {w w' : World} {base nn : Nat} {v : Value} {F : List Pk} {sp : Int}
theorem Nt.below (h : Nt w base nn v F sp) (hb : Below w.heap.size w w') : Nt w' base nn v F sp :=
  ⟨h.d.below hb h.d.lt, (Chg.of_below hb (fun _ => False)).row h.r (fun _ _ h => h)⟩
theorem Nt.alloc (h : Nt w base nn v F sp) (o : Obj) : Nt (w.alloc o) base nn v F sp := h.below (by (repeat (first | exact Below.refl _ _ | assumption | refine below_drewN ?_ _ | refine Below.drew ?_ | refine Below.alloc ?_ (by (try simp); (try omega)) _ | refine Below.setCell ?_ (by (try simp); (try omega)) _)))
theorem Nt.vn (h : Nt w base nn v F sp) : v.ownBlock ≠ some nn := own_blk_ne h.r h.d (by decide)
theorem nt2 (h : Nt w base nn v F sp) : w.cell? ⟨nn, 0, none⟩ = some v ∧ w.cell? ⟨nn, 1, none⟩ = some (.int .i64 sp) := ⟨h.d.cell 0, h.d.cell 1⟩
theorem Nt.same (h : Nt w base nn v F sp) {x : Value} {r : Value → Prop} (hr : r x) (hb : Below w.heap.size w w') : NtRes w base nn v F sp r (.returned x) w' := ⟨x, v, rfl, hr, h.below hb, Chg.of_below hb _, fun _ h => .inl h⟩
theorem Nt.fresh (h : Nt w base nn v F sp) {k : Nat} (hk : NetS nn v k) : k < w.heap.size := by
  rcases hk with rfl | hk
  · exact h.d.lt
  · exact (h.r.lt k hk).2
theorem Nt.split (h : Nt w base nn v F sp) (s : Int) : Nt (w.setCell ⟨nn, 1, none⟩ (.int .i64 s)) base nn v F s ∧ Chg w (w.setCell ⟨nn, 1, none⟩ (.int .i64 s)) (NetS nn v) := by
  have hg := grown_s w nn 1 (.int .i64 s)
  refine ⟨⟨by simpa using h.d.set_ 1 (.int .i64 s), h.r.kept hg (.inr h.vn)⟩, Chg.of_grown hg (fun k e => .inl (by injection e))⟩
end
theorem wp_appPk {ops : Array Oper} {rest : List Oper} {o : Oper} {a : Act} {Q : Exit → Act → World → Prop} (w : World) (hgd : o.guard = none) (s x : Operand) (ho : o.op = .call { callee := .builtin .append, args := #[s, x], argTypes := #[73, 73] })
    (base : Nat) (v : Value) (l : List Pk) (hs : a.eval s = v) (hown : w.ownsRow base 76 3 v l.length (pc l)) (ad : Addr) (c : Nat) (ys : List Pk) (hx : a.eval x = .slice (some ad) ys.length c)
    (hcell : ∀ (j : Nat) (u : Value), (pc ys)[j]? = some u → w.cell? (ad.add j) = some u) (hlen : l.length + ys.length ≤ 1000000) (hbase : base ≤ w.heap.size)
    (h : ∀ v' w', w'.ownsRow base 76 3 v' (l ++ ys).length (pc (l ++ ys)) → w.grownBy w' v.ownBlock → (v'.ownBlock = v.ownBlock ∨ v'.ownBlock = some w.heap.size) → wpList Tryd.prog ops Q rest (a.put o.dst v') w') : wpList Tryd.prog ops Q (o :: rest) a w := by
  obtain ⟨i0, hi, hz0, hz1, hz2⟩ := info_parts infoPk
  refine wpList_append_own_at w hgd s x 73 ho base 76 i0 _ 3 32 Tryd.underlying73 hi hz0 hz1 hz2 rfl (by omega) v l.length _ hs hown ad ys.length c (pc ys) hx (by rw [pc_len]) hcell (pc_one ys) (by unfold maxLen; omega) (by omega) hbase ?_
  intro v' w' h1 h2 _ h4
  refine h v' w' ?_ h2 h4
  rw [List.length_append, pc_app]
  exact h1
theorem pk_news {w : World} {B : Nat} {p : Pk} {t : TypeId} (hb : Blk w B t #[.int .i64 p.1, .int .i64 p.2.1, .string p.2.2]) : ∀ (j : Nat) (u : Value), (pc [p])[j]? = some u → w.cell? ((⟨B, 0, none⟩ : Addr).add j) = some u := by
  intro j u hu
  rw [add_at, hb.cell]
  match j, hu with
  | 0, hu => simpa [pc] using hu
  | 1, hu => simpa [pc] using hu
  | 2, hu => simpa [pc] using hu
  | j + 3, hu => simp [pc] at hu
theorem nt_app {W w1 : World} {base nn : Nat} {v v1 : Value} {F : List Pk} {sp : Int} {p : Pk} (hN : Nt W base nn v F sp)
    (ho : w1.ownsRow base 76 3 v1 (F ++ [p]).length (pc (F ++ [p]))) (hgr : W.grownBy w1 v.ownBlock) (hat : v1.ownBlock = v.ownBlock ∨ v1.ownBlock = some W.heap.size) :
    Nt (w1.setCell ⟨nn, 0, none⟩ v1) base nn v1 (F ++ [p]) sp ∧ Chg W (w1.setCell ⟨nn, 0, none⟩ v1) (NetS nn v) ∧ ∀ g, v1.ownBlock = some g → v.ownBlock = some g ∨ W.heap.size ≤ g := by
  have hlt := hN.d.lt
  have hne : v1.ownBlock ≠ some nn := by
    rcases hat with h | h
    · rw [h]; exact hN.vn
    · rw [h]; intro e; injection e with e; omega
  refine ⟨⟨?_, ho.kept (grown_s w1 nn 0 _) (.inr hne)⟩, ?_, fun g hg => hat.elim (fun h => .inl (h ▸ hg)) (fun h => .inr (by rw [h] at hg; injection hg with e; omega))⟩
  · have := (Blk.grown hN.d hgr (fun e => hN.vn e.symm)).set_ 0 v1
    simpa using this
  · exact Chg.trans (Chg.of_grown hgr (S := NetS nn v) (fun k e => .inr e.symm)) (Chg.of_grown (grown_s w1 nn 0 v1) (S := fun k => k = nn) (fun k e => by injection e)) (fun k _ e => .inl e)

/-- The ends of a packet are the two controllers. -/
def Ends (a b : Int) : Prop := (a = 0 ∧ b = 1) ∨ (a = 1 ∧ b = 0)
theorem end_yes (a : Int) (h : a = 0 ∨ a = 1) (w : World) : Calls Tryd.prog 76 #[.int .i64 a] w fun e w' => e = .returned (.bool true) ∧ w = w' := by
  rcases h with rfl | rfl
  all_goals
    go_enter Tryd.func76, Tryd.ntmps76
    go_wp2_with fail
    go_ret
    exact ⟨rfl, rfl⟩
theorem nnew_any (w : World) : Calls Tryd.prog 62 #[] w fun e w' => e = .returned (.pointer (some ⟨w.heap.size, 0, none⟩)) ∧ Nt w' w.heap.size w.heap.size (.slice none 0 0) [] 0 ∧ Below w.heap.size w w' := by
  have hN := hid (show Nt (w.alloc (Obj.cells #[.slice none 0 0, .int .i64 0] 104)) w.heap.size w.heap.size (.slice none 0 0) [] 0 from ⟨Blk.new _ _ _, ⟨rfl, .inl ⟨rfl, rfl⟩⟩⟩)
  have hB := hid (show Below w.heap.size w (w.alloc (Obj.cells #[.slice none 0 0, .int .i64 0] 104)) by (repeat (first | exact Below.refl _ _ | assumption | refine below_drewN ?_ _ | refine Below.drew ?_ | refine Below.alloc ?_ (by (try simp); (try omega)) _ | refine Below.setCell ?_ (by (try simp); (try omega)) _)))
  go_enter Tryd.func62, Tryd.ntmps62
  go_wp2_with fail
  go_ret
  exact ⟨rfl, hN.out, hB.out⟩
theorem count_any {w : World} {base nn : Nat} {v : Value} {F : List Pk} {sp : Int} (h : Nt w base nn v F sp) : Calls Tryd.prog 34 #[.pointer (some ⟨nn, 0, none⟩)] w fun e w' => e = .returned (.int .i64 F.length) ∧ w = w' := by
  obtain ⟨A, c, rfl, _, _, _⟩ := pk_row h.r
  obtain ⟨d0, d1⟩ := nt2 h
  have hz := h.d.lt
  clear h
  go_enter Tryd.func34, Tryd.ntmps34
  go_wp2_with fail
  go_ret
  exact ⟨rfl, rfl⟩
theorem nsplit_any {w : World} {base nn : Nat} {v : Value} {F : List Pk} {sp : Int} (h : Nt w base nn v F sp) : Calls Tryd.prog 64 #[.pointer (some ⟨nn, 0, none⟩), .int .i64 1] w (NtRes w base nn v F 1 (fun x => x = .tuple #[])) := by
  have hS := hid (h.split 1)
  obtain ⟨d0, d1⟩ := nt2 h
  have hz := h.d.lt
  have f1 := h.d.frozen 1
  clear h
  go_enter Tryd.func64, Tryd.ntmps64
  go_wp2_with fail
  go_end0
  exact ⟨_, v, rfl, rfl, hS.out.1, hS.out.2, fun _ h => .inl h⟩
theorem nheal_any {w : World} {base nn : Nat} {v : Value} {F : List Pk} {sp : Int} (h : Nt w base nn v F sp) : Calls Tryd.prog 33 #[.pointer (some ⟨nn, 0, none⟩)] w (NtRes w base nn v F 0 (fun x => x = .tuple #[])) := by
  have hS := hid (h.split 0)
  obtain ⟨d0, d1⟩ := nt2 h
  have hz := h.d.lt
  have f1 := h.d.frozen 1
  clear h
  go_enter Tryd.func33, Tryd.ntmps33
  go_wp2_with fail
  go_end0
  exact ⟨_, v, rfl, rfl, hS.out.1, hS.out.2, fun _ h => .inl h⟩
set_option maxRecDepth 100000 in
set_option maxHeartbeats 1000000 in
theorem nhear_any {w : World} {base nn : Nat} {v : Value} {F : List Pk} {sp : Int} (h : Nt w base nn v F sp) (hsp : sp = 0 ∨ sp = 1) (a b : Int) (hab : Ends a b) :
    Calls Tryd.prog 77 #[.pointer (some ⟨nn, 0, none⟩), .int .i64 a, .int .i64 b] w fun e w' => e = .returned (.bool (decide (sp = 0))) ∧ Below w.heap.size w w' := by
  obtain ⟨d0, d1⟩ := nt2 h
  have hz := h.d.lt
  clear h
  have c0 := hid fun x : Ext (GB w) => GB.call (x := x) ((end_yes 0 (.inl rfl) x.w).mono fun _ _ h => ⟨h.1, h.2 ▸ Below.refl _ _⟩)
  have c1 := hid fun x : Ext (GB w) => GB.call (x := x) ((end_yes 1 (.inr rfl) x.w).mono fun _ _ h => ⟨h.1, h.2 ▸ Below.refl _ _⟩)
  have hx := fun x : Ext (GB w) => GB.cell x
  rcases hsp with rfl | rfl <;> rcases hab with ⟨rfl, rfl⟩ | ⟨rfl, rfl⟩
  all_goals
    go_enter Tryd.func77, Tryd.ntmps77
    go_upto_region 1 with fail
    refine wp_region_ext (GB w) (by kernel_rfl) (by kernel_rfl) (GB.refl _) ?_
    repeat (go_big_quiet_step (first | with_reducible exact c0.out _ | with_reducible exact c1.out _))
    refine wpQuiet_nil ?_
    intro w7 hG
    clear hx c0 c1
    go_wp2_with fail
    go_ret
    exact ⟨rfl, hG.out⟩
end Go.Proofs.YtfofmbmmighdiaaDoor
