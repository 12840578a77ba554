
/- Stock: the small functions. -/
import Derived.Test.YtfpehakllnkaeaaGreatDoorStkA
import Derived.Test.YtfpehakllnkaeaaGreatDoorRegG
set_option linter.unusedSimpArgs false
set_option linter.unusedVariables false
namespace Go.Proofs.YtfpehakllnkaeaaGreatDoor
open Go.RowKit Go.IntWalk

set_option maxRecDepth 100000 in
theorem between_any (n lo hi : Int) (w : World) :
    Calls Tryz.prog 49 #[.int .i64 n, .int .i64 lo, .int .i64 hi] w fun e w' => e = .returned (.bool (btw n lo hi)) ∧ Below w.heap.size w w' := by
  have HB := hid (show btw n lo hi = (decide (lo ≤ n) && decide (n ≤ hi)) from rfl)
  by_cases h1 : lo ≤ n
  · by_cases h2 : n ≤ hi
    · have hb := hid (show btw n lo hi = true by simp [btw, h1, h2])
      rw [hb.out]
      go_enter Tryz.func49, Tryz.ntmps49
      go_wp2_with fail
      go_ret
      exact ⟨rfl, Below.refl _ _⟩
    · have hb := hid (show btw n lo hi = false by simp [btw, h2])
      have h2' : hi < n := by omega
      rw [hb.out]
      go_enter Tryz.func49, Tryz.ntmps49
      go_wp2_with fail
      go_ret
      exact ⟨rfl, Below.refl _ _⟩
  · have hb := hid (show btw n lo hi = false by simp [btw, h1])
    have h1' : n < lo := by omega
    rw [hb.out]
    go_enter Tryz.func49, Tryz.ntmps49
    go_wp2_with fail
    go_ret
    exact ⟨rfl, Below.refl _ _⟩

set_option maxRecDepth 100000 in
set_option maxHeartbeats 1000000 in
theorem rightBox_any (b : Bx) (n : Nat) (hn : n ≤ 1000000) (w : World) :
    Calls Tryz.prog 50 #[.agg #[.int .i64 b.1, .int .i64 b.2.1, .int .i64 b.2.2], .int .i64 n] w fun e w' => e = .returned (.bool (boxF n b)) ∧ Below w.heap.size w w' := by
  obtain ⟨lot, cnt, tare⟩ := b
  have HF := hid (show boxF n (lot, cnt, tare) = (btw tare 0 1000000 && btw lot (-1) (n - 1) && btw cnt 0 20000 && (decide (0 ≤ lot) || decide (cnt = 0))) from rfl)
  have hwr : IntKind.i64.wrap ((n : Int) - 1) = n - 1 := IntWalk.i64_in _ (by omega)
  have B1 := hid (show Below w.heap.size w (w.alloc (Obj.cells #[.int .i64 lot, .int .i64 cnt, .int .i64 tare] 45)) by (repeat (first | exact Below.refl _ _ | assumption | refine below_drewN ?_ _ | refine Below.drew ?_ | refine Below.alloc ?_ (by (try simp); (try omega)) _ | refine Below.setCell ?_ (by (try simp); (try omega)) _)))
  have X1 := hid (Blk.new w 45 #[.int .i64 lot, .int .i64 cnt, .int .i64 tare])
  have HBT := hid between_any
  go_enter Tryz.func50, Tryz.ntmps50
  go_wp2_with fail
  refine (HBT.out _ _ _ _).mono ?_
  rintro e w2 ⟨rfl, hB2⟩
  have X2 := hid (X1.out.below hB2 X1.out.lt)
  have B2 := hid (B1.out.trans (hB2.mono B1.out.size))
  clear hB2 X1 B1
  cases h1 : btw tare 0 1000000 with
  | false =>
    rw [h1] at HF
    as_aux_lemma =>
      go_wp2_with fail
      go_ret
      exact ⟨ret_bool (by rw [HF.out]; rfl), B2.out⟩
  | true =>
    rw [h1] at HF
    have x0 := X2.out.cell 0; have xz := X2.out.lt
    simp at x0
    go_wp2_with fail
    refine (HBT.out _ _ _ _).mono ?_
    rintro e w3 ⟨rfl, hB3⟩
    have X3 := hid (X2.out.below hB3 X2.out.lt)
    have B3 := hid (B2.out.trans (hB3.mono B2.out.size))
    clear hB3 X2 B2 x0 xz
    cases h2 : btw lot (-1) (n - 1) with
    | false =>
      rw [h2] at HF
      as_aux_lemma =>
        go_wp2_with fail
        go_ret
        exact ⟨ret_bool (by rw [HF.out]; rfl), B3.out⟩
    | true =>
      rw [h2] at HF
      have x1 := X3.out.cell 1; have xz := X3.out.lt
      simp at x1
      go_wp2_with fail
      refine (HBT.out _ _ _ _).mono ?_
      rintro e w4 ⟨rfl, hB4⟩
      have X4 := hid (X3.out.below hB4 X3.out.lt)
      have B4 := hid (B3.out.trans (hB4.mono B3.out.size))
      clear hB4 X3 B3 x1 xz
      cases h3 : btw cnt 0 20000 with
      | false =>
        rw [h3] at HF
        as_aux_lemma =>
          go_wp2_with fail
          go_ret
          exact ⟨ret_bool (by rw [HF.out]; rfl), B4.out⟩
      | true =>
        rw [h3] at HF
        have x0 := X4.out.cell 0; have x1 := X4.out.cell 1; have xz := X4.out.lt
        simp at x0 x1
        by_cases h4 : 0 ≤ lot
        · have hf := hid (show boxF n (lot, cnt, tare) = true by rw [HF.out]; simp [h4])
          as_aux_lemma =>
            go_wp2_with fail
            go_ret
            exact ⟨ret_bool hf.out.symm, B4.out⟩
        · by_cases h5 : cnt = 0
          · have hf := hid (show boxF n (lot, cnt, tare) = true by rw [HF.out]; simp [h5])
            as_aux_lemma =>
              go_wp2_with fail
              go_ret
              exact ⟨ret_bool hf.out.symm, B4.out⟩
          · have hf := hid (show boxF n (lot, cnt, tare) = false by rw [HF.out]; simp [h4, h5])
            as_aux_lemma =>
              go_wp2_with fail
              go_ret
              exact ⟨ret_bool (by rw [hf.out]; simp [h4, h5]), B4.out⟩
set_option maxRecDepth 100000 in
/-- What both Fits do. -/
theorem sfits_any (l : Lt) (x : Wt) (w : World) :
    Calls Tryz.prog 14 #[.agg #[.int .i64 l.1, .int .i64 l.2.1, .bool l.2.2], .agg #[.int .i64 x.1, .int .i64 x.2.1, .int .i64 x.2.2]] w fun e w' => e = .returned (.bool (fitF l x)) ∧ Below w.heap.size w w' := by
  obtain ⟨kd, ex, fr⟩ := l
  obtain ⟨wk, wc, wu⟩ := x
  have HF := hid (show fitF (kd, ex, fr) (wk, wc, wu) = (decide (kd = wk) && (!fr) && decide (wu ≤ ex)) from rfl)
  have B1 := hid (show Below w.heap.size w ((w.alloc (Obj.cells #[.int .i64 kd, .int .i64 ex, .bool fr] 40)).alloc (Obj.cells #[.int .i64 wk, .int .i64 wc, .int .i64 wu] 42)) by (repeat (first | exact Below.refl _ _ | assumption | refine below_drewN ?_ _ | refine Below.drew ?_ | refine Below.alloc ?_ (by (try simp); (try omega)) _ | refine Below.setCell ?_ (by (try simp); (try omega)) _)))
  go_enter Tryz.func14, Tryz.ntmps14
  by_cases h1 : kd = wk
  · subst h1
    cases hfr : fr with
    | true =>
      have hf := hid (show fitF (kd, ex, true) (kd, wc, wu) = false by simp [fitF])
      subst hfr
      as_aux_lemma =>
        go_wp2_with fail
        go_ret
        exact ⟨ret_bool hf.out.symm, B1.out⟩
    | false =>
      subst hfr
      by_cases h3 : wu ≤ ex
      · have hf := hid (show fitF (kd, ex, false) (kd, wc, wu) = true by simp [fitF, h3])
        as_aux_lemma =>
          go_wp2_with fail
          go_ret
          exact ⟨ret_bool hf.out.symm, B1.out⟩
      · have hf := hid (show fitF (kd, ex, false) (kd, wc, wu) = false by simp [fitF, h3])
        as_aux_lemma =>
          go_wp2_with fail
          go_ret
          exact ⟨ret_bool hf.out.symm, B1.out⟩
  · have hf := hid (show fitF (kd, ex, fr) (wk, wc, wu) = false by simp [fitF, h1])
    as_aux_lemma =>
      go_wp2_with fail
      go_ret
      exact ⟨ret_bool hf.out.symm, B1.out⟩
set_option maxRecDepth 100000 in
theorem rfits_any (l : Lt) (x : Wt) (w : World) :
    Calls Tryz.prog 15 #[.agg #[.int .i64 l.1, .int .i64 l.2.1, .bool l.2.2], .agg #[.int .i64 x.1, .int .i64 x.2.1, .int .i64 x.2.2]] w fun e w' => e = .returned (.bool (fitF l x)) ∧ Below w.heap.size w w' := by
  obtain ⟨kd, ex, fr⟩ := l
  obtain ⟨wk, wc, wu⟩ := x
  have HF := hid (show fitF (kd, ex, fr) (wk, wc, wu) = (decide (kd = wk) && (!fr) && decide (wu ≤ ex)) from rfl)
  have B1 := hid (show Below w.heap.size w ((w.alloc (Obj.cells #[.int .i64 kd, .int .i64 ex, .bool fr] 40)).alloc (Obj.cells #[.int .i64 wk, .int .i64 wc, .int .i64 wu] 42)) by (repeat (first | exact Below.refl _ _ | assumption | refine below_drewN ?_ _ | refine Below.drew ?_ | refine Below.alloc ?_ (by (try simp); (try omega)) _ | refine Below.setCell ?_ (by (try simp); (try omega)) _)))
  go_enter Tryz.func15, Tryz.ntmps15
  by_cases h1 : kd = wk
  · subst h1
    cases hfr : fr with
    | true =>
      have hf := hid (show fitF (kd, ex, true) (kd, wc, wu) = false by simp [fitF])
      subst hfr
      as_aux_lemma =>
        go_wp2_with fail
        go_ret
        exact ⟨ret_bool hf.out.symm, B1.out⟩
    | false =>
      subst hfr
      by_cases h3 : wu ≤ ex
      · have hf := hid (show fitF (kd, ex, false) (kd, wc, wu) = true by simp [fitF, h3])
        as_aux_lemma =>
          go_wp2_with fail
          go_ret
          exact ⟨ret_bool hf.out.symm, B1.out⟩
      · have hf := hid (show fitF (kd, ex, false) (kd, wc, wu) = false by simp [fitF, h3])
        as_aux_lemma =>
          go_wp2_with fail
          go_ret
          exact ⟨ret_bool hf.out.symm, B1.out⟩
  · have hf := hid (show fitF (kd, ex, fr) (wk, wc, wu) = false by simp [fitF, h1])
    as_aux_lemma =>
      go_wp2_with fail
      go_ret
      exact ⟨ret_bool hf.out.symm, B1.out⟩
end Go.Proofs.YtfpehakllnkaeaaGreatDoor
