
/- Robots: the row of five cells. -/
import Derived.Test.YtnnephifjikkdaaGreatDoorRobH
set_option linter.unusedSimpArgs false
set_option linter.unusedVariables false
namespace Go.Proofs.YtnnephifjikkdaaGreatDoor
open Go.RowKit Go.IntWalk

theorem cell1_new (W : World) (x : Int) : ∀ (j : Nat) (u : Value), ([x].map (Value.int .i64))[j]? = some u → (W.alloc (Obj.cells #[.int .i64 x] 3)).cell? ((⟨W.heap.size, 0, none⟩ : Addr).add j) = some u := by
  intro j u hu
  match j, hu with
  | 0, hu => simp at hu; subst hu; simp [Addr.add, go_sem]
  | j+1, hu => simp at hu
def Apart (v1 v2 : Value) : Prop := ∀ g, v1.ownBlock = some g → v2.ownBlock ≠ some g
theorem Apart.symm {v1 v2 : Value} (h : Apart v1 v2) : Apart v2 v1 := fun g h1 h2 => h g h2 h1
theorem OwnI.lt {w : World} {base g : Nat} {v : Value} {l : List Int} (h : OwnI w base v l) (hg : v.ownBlock = some g) : g < w.heap.size := by
  rcases h.2 with ⟨rfl, _⟩ | ⟨g', cap, cur, rfl, _, hb, _⟩
  · simp [Value.ownBlock] at hg
  · have : g' = g := by simpa [Value.ownBlock] using hg
    subst this
    exact (Array.getElem?_eq_some_iff.1 hb).1
theorem OwnI.grown {w w' : World} {base : Nat} {v v1 : Value} {l : List Int} (h : OwnI w base v l) (hb : w.grownBy w' v1.ownBlock) (ha : Apart v1 v) : OwnI w' base v l := by
  refine ⟨h.1, ?_⟩
  rcases h.2 with h0 | ⟨g, cap, cur, rfl, hg, hc, r⟩
  · exact .inl h0
  · refine .inr ⟨g, cap, cur, rfl, hg, (hb.block g (Array.getElem?_eq_some_iff.1 hc).1 ?_).trans hc, r⟩
    intro e
    exact ha g e.symm rfl
theorem Apart.app {w : World} {base : Nat} {v1 v1' v2 : Value} {l : List Int} (h : Apart v1 v2) (h2 : OwnI w base v2 l) {n : Nat} (hn : w.heap.size ≤ n) (hat : v1'.ownBlock = v1.ownBlock ∨ v1'.ownBlock = some n) : Apart v1' v2 := by
  intro g hg hg2
  rcases hat with e | e
  · exact h g (e ▸ hg) hg2
  · have := h2.lt hg2
    rw [e] at hg
    injection hg with hg
    omega
theorem OwnI.form {w : World} {base : Nat} {v : Value} {l : List Int} (h : OwnI w base v l) : ∃ A c, v = .slice A l.length c := by
  rcases h.2 with ⟨rfl, h0⟩ | ⟨g, cap, cur, rfl, _⟩
  · exact ⟨none, 0, by rw [h0]⟩
  · exact ⟨_, _, rfl⟩
def RetFloor (w : World) (W H D : Int) (kind out : List Int) (e : Ending) (w' : World) : Prop :=
  ∃ Ak ck Ao co, e = .returned (.agg #[.int .i64 W, .int .i64 H, .int .i64 D, .slice Ak kind.length ck, .slice Ao out.length co]) ∧ SlR w' w'.heap.size Ak kind ∧ SlR w' w'.heap.size Ao out ∧ Below w.heap.size w w'
set_option maxRecDepth 100000 in
set_option maxHeartbeats 2000000 in
theorem row_any (w : World) : Calls Tryz.prog 74 #[] w (RetFloor w 5 1 1 [1, 1, 1, 1, 1] [5, 5, 5, 5, 5]) := by
  have R0 : Hid (Below w.heap.size w ((w.alloc (Obj.cells #[.int .i64 0, .int .i64 0, .int .i64 0, .slice none 0 0, .slice none 0 0] 24)).alloc (Obj.cells #[.int .i64 5, .int .i64 1, .int .i64 1, .slice none 0 0, .slice none 0 0] 24))) := by unfold Hid; (repeat (first | exact Below.refl _ _ | assumption | refine below_drewN ?_ _ | refine Below.drew ?_ | refine Below.alloc ?_ (by (try simp); (try omega)) _ | refine Below.setCell ?_ (by (try simp); (try omega)) _))
  have R1 : Hid (Blk ((w.alloc (Obj.cells #[.int .i64 0, .int .i64 0, .int .i64 0, .slice none 0 0, .slice none 0 0] 24)).alloc (Obj.cells #[.int .i64 5, .int .i64 1, .int .i64 1, .slice none 0 0, .slice none 0 0] 24)) w.heap.size 24 #[.int .i64 0, .int .i64 0, .int .i64 0, .slice none 0 0, .slice none 0 0]) := (Blk.new w _ _).alloc _
  have R2 : Hid (Blk ((w.alloc (Obj.cells #[.int .i64 0, .int .i64 0, .int .i64 0, .slice none 0 0, .slice none 0 0] 24)).alloc (Obj.cells #[.int .i64 5, .int .i64 1, .int .i64 1, .slice none 0 0, .slice none 0 0] 24)) (w.heap.size + 1) 24 #[.int .i64 5, .int .i64 1, .int .i64 1, .slice none 0 0, .slice none 0 0]) := Blk.new_at (by simp)
  go_enter Tryz.func74, Tryz.ntmps74
  go_wp2_with fail
  go_loopw [2] (fun i wr => ∃ (k : Nat) (v1 v2 : Value), k ≤ 5 ∧ i = .int .i64 k ∧ Below w.heap.size w wr ∧ Blk wr w.heap.size 24 #[.int .i64 0, .int .i64 0, .int .i64 0, .slice none 0 0, .slice none 0 0] ∧ Blk wr (w.heap.size + 1) 24 #[.int .i64 5, .int .i64 1, .int .i64 1, v1, v2] ∧
      OwnI wr (w.heap.size + 2) v1 (List.replicate k 1) ∧ OwnI wr (w.heap.size + 2) v2 (List.replicate k 5) ∧ Apart v1 v2) (fun i _ => 5 - (intOf i).toNat)
  case atStart => exact ⟨0, _, _, by omega, rfl, R0.out, R1.out, R2.out, OwnI.nil _ _, OwnI.nil _ _, fun g h => by cases h⟩
  case round =>
    clear R0 R1 R2
    obtain ⟨k, v1, v2, hk, rfl, hb, br, bt, o1, o2, hap⟩ := hrel
    by_cases hlt : k < 5
    · obtain ⟨t0, t1, t2, t3, t4⟩ := blk5 bt
      have z1 := bt.lt
      have z0 := br.lt
      have i1 : (k:Int) < 5 := by omega
      have hc1 := hid (cell1_new wr 1)
      go_upto_region 6 with (at_builtin; refine wp_appI _ rfl (.tmp 9) (.tmp 10) rfl (w.heap.size + 2) v1 (List.replicate k 1) rfl (o1.alloc _) _ _ [1] rfl hc1.out (by simp; omega) (by simp; omega) ?_; intro u1 w2 ho1 hg1 hat1; obtain ⟨A1, c1, rfl⟩ := ho1.form; have br2 := (br.alloc (Obj.cells #[.int .i64 1] 3)).grown hg1 (by intro e; exact (o1.past (g := w.heap.size) (by omega)) e.symm); have bt2 := (bt.alloc (Obj.cells #[.int .i64 1] 3)).grown hg1 (by intro e; exact (o1.past (g := w.heap.size + 1) (by omega)) e.symm); have z2 := bt2.lt; have f3 := bt2.frozen 3; obtain ⟨t20, t21, t22, t23, t24⟩ := blk5 bt2; simp only [List.length_append, List.length_replicate, List.length_singleton] at ho1 hat1 ⊢)
      have ho2 := ((o2.alloc (Obj.cells #[.int .i64 1] 3)).grown hg1 hap).far (p := ⟨w.heap.size + 1, 3, none⟩) (o2.past (by simp)) (.slice A1 (k + 1) c1)
      have hap2 := hap.app (o2.alloc (Obj.cells #[.int .i64 1] 3)) (Nat.le_refl _) hat1
      have ho1 := ho1.far (p := ⟨w.heap.size + 1, 3, none⟩) (ho1.past (by simp)) (.slice A1 (k + 1) c1)
      have bt3 : Blk (w2.setCell ⟨w.heap.size + 1, 3, none⟩ (.slice A1 (k + 1) c1)) (w.heap.size + 1) 24 #[.int .i64 5, .int .i64 1, .int .i64 1, .slice A1 (k + 1) c1, v2] := by simpa using bt2.set_ 3 (.slice A1 (k + 1) c1)
      have br3 := br2.far (p := ⟨w.heap.size + 1, 3, none⟩) (by simp) (.slice A1 (k + 1) c1)
      have hb3 : Below w.heap.size w (w2.setCell ⟨w.heap.size + 1, 3, none⟩ (.slice A1 (k + 1) c1)) := by
        refine ((hb.alloc hb.size _).grown hg1 (by simp; have := hb.size; omega) ?_).setCell (by simp) _
        intro k' hk'
        rcases Nat.lt_or_ge k' w.heap.size with h | h
        · exact absurd hk' (o1.past (by omega))
        · exact h
      generalize w2.setCell ⟨w.heap.size + 1, 3, none⟩ (.slice A1 (k + 1) c1) = w3 at *
      clear hc1 t0 t1 t2 t3 t4 z1 z0 br2 bt2 z2 f3 t20 t21 t22 t23 t24 hg1 hat1
      obtain ⟨t0, t1, t2, t3, t4⟩ := blk5 bt3
      have z1 := bt3.lt
      have hc1 := hid (cell1_new w3 5)
      clear br bt t0 t1 t2 t3 hb
      go_wp2_with (at_builtin; refine wp_appI _ rfl (.tmp 14) (.tmp 15) rfl (w.heap.size + 2) v2 (List.replicate k 5) rfl (ho2.alloc _) _ _ [5] rfl hc1.out (by simp; omega) (by simp; have := hb3.size; omega) ?_; intro u2 w4 ho4 hg4 hat4; obtain ⟨A2, c2, rfl⟩ := ho4.form; have br4 := (br3.alloc (Obj.cells #[.int .i64 5] 3)).grown hg4 (by intro e; exact (ho2.past (g := w.heap.size) (by omega)) e.symm); have bt4 := (bt3.alloc (Obj.cells #[.int .i64 5] 3)).grown hg4 (by intro e; exact (ho2.past (g := w.heap.size + 1) (by omega)) e.symm); have z4 := bt4.lt; have f4 := bt4.frozen 4; obtain ⟨t20, t21, t22, t23, t24⟩ := blk5 bt4; simp only [List.length_append, List.length_replicate, List.length_singleton] at ho4 hat4 ⊢)
      have ho1' := ((ho1.alloc (Obj.cells #[.int .i64 5] 3)).grown hg4 hap2.symm).far (p := ⟨w.heap.size + 1, 4, none⟩) (ho1.past (by simp)) (.slice A2 (k + 1) c2)
      have hap4 := hap2.symm.app (ho1.alloc (Obj.cells #[.int .i64 5] 3)) (Nat.le_refl _) hat4
      have ho4' := ho4.far (p := ⟨w.heap.size + 1, 4, none⟩) (ho4.past (by simp)) (.slice A2 (k + 1) c2)
      have bt5 : Blk (w4.setCell ⟨w.heap.size + 1, 4, none⟩ (.slice A2 (k + 1) c2)) (w.heap.size + 1) 24 #[.int .i64 5, .int .i64 1, .int .i64 1, .slice A1 (k + 1) c1, .slice A2 (k + 1) c2] := by simpa using bt4.set_ 4 (.slice A2 (k + 1) c2)
      have br5 := br4.far (p := ⟨w.heap.size + 1, 4, none⟩) (by simp) (.slice A2 (k + 1) c2)
      have hb5 : Below w.heap.size w (w4.setCell ⟨w.heap.size + 1, 4, none⟩ (.slice A2 (k + 1) c2)) := by
        refine ((hb3.alloc hb3.size _).grown hg4 (by simp; have := hb3.size; omega) ?_).setCell (by simp) _
        intro k' hk'
        rcases Nat.lt_or_ge k' w.heap.size with h | h
        · exact absurd hk' (ho2.past (by omega))
        · exact h
      go_roundw
      case rel => exact ⟨k+1, _, _, by omega, by go_num, hb5, br5, bt5, by rw [List.replicate_succ']; exact ho1', by rw [List.replicate_succ']; exact ho4', hap4.symm⟩
      case measure => simp [intOf]; omega
    · have hk5 : k = 5 := by omega
      subst hk5
      obtain ⟨A1, c1, rfl⟩ := o1.form
      obtain ⟨A2, c2, rfl⟩ := o2.form
      obtain ⟨t0, t1, t2, t3, t4⟩ := blk5 bt
      obtain ⟨r0, r1, r2, r3, r4⟩ := blk5 br
      have z1 := bt.lt
      have z0 := br.lt
      have f0 := br.frozen 0
      have f1 := br.frozen 1
      have f2 := br.frozen 2
      have f3 := br.frozen 3
      have f4 := br.frozen 4
      go_wp2_with fail
      have o1' := ((((o1.far (p := ⟨w.heap.size, 0, none⟩) (o1.past (by simp)) (.int .i64 5)).far (p := ⟨w.heap.size, 1, none⟩) (o1.past (by simp)) (.int .i64 1)).far (p := ⟨w.heap.size, 2, none⟩) (o1.past (by simp)) (.int .i64 1)).far (p := ⟨w.heap.size, 3, none⟩) (o1.past (by simp)) (.slice A1 5 c1)).far (p := ⟨w.heap.size, 4, none⟩) (o1.past (by simp)) (.slice A2 5 c2)
      have o2' := ((((o2.far (p := ⟨w.heap.size, 0, none⟩) (o2.past (by simp)) (.int .i64 5)).far (p := ⟨w.heap.size, 1, none⟩) (o2.past (by simp)) (.int .i64 1)).far (p := ⟨w.heap.size, 2, none⟩) (o2.past (by simp)) (.int .i64 1)).far (p := ⟨w.heap.size, 3, none⟩) (o2.past (by simp)) (.slice A1 5 c1)).far (p := ⟨w.heap.size, 4, none⟩) (o2.past (by simp)) (.slice A2 5 c2)
      obtain ⟨B1, d1, e1, _, _, h1⟩ := o1'.slr (by intro x hx; simp at hx; subst hx; exact ⟨by decide, by decide⟩)
      obtain ⟨B2, d2, e2, _, _, h2⟩ := o2'.slr (by intro x hx; simp at hx; subst hx; exact ⟨by decide, by decide⟩)
      injection e1 with e1 _ _
      injection e2 with e2 _ _
      subst e1 e2
      refine bodyPost_ret (v := .agg #[.int .i64 5, .int .i64 1, .int .i64 1, .slice A1 5 c1, .slice A2 5 c2]) (by simp [results, Tryz.results74, go_sem, f0, f1, f2, f3, f4, r0, r1, r2, r3, r4, z0]) rfl ⟨A1, c1, A2, c2, rfl, h1, h2, ?_⟩
      exact ((((hb.setCell (by simp) _).setCell (by simp) _).setCell (by simp) _).setCell (by simp) _).setCell (by simp) _
end Go.Proofs.YtnnephifjikkdaaGreatDoor
