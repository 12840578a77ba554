
/- Robots: New, few. -/
import Derived.Test.YtnnephifjikkdaaGreatDoorRobI
set_option linter.unusedSimpArgs false
set_option linter.unusedVariables false
namespace Go.Proofs.YtnnephifjikkdaaGreatDoor
open Go.RowKit Go.IntWalk

set_option maxRecDepth 100000 in
set_option maxHeartbeats 400000 in
theorem new_any (c : Int) (w : World) : Calls Tryz.prog 37 #[.int .i64 c] w fun e w' => e = .returned (.agg #[.int .i64 c, .slice none 0 0]) ∧ w' = w.alloc (Obj.cells #[.int .i64 c, .slice none 0 0] 48) := by
  go_enter Tryz.func37, Tryz.ntmps37
  go_wp2_with fail
  refine bodyPost_ret (v := .agg #[.int .i64 c, .slice none 0 0]) (by simp [results, Tryz.results37, go_sem]) rfl ⟨rfl, ?_⟩
  simp [go_sem]

def fewL (W H D : Int) (kind out q : List Int) : Bool := decide (kind.length ≤ 40) && (decide (out.length ≤ 40) && (decide (q.length ≤ 10) && refR W H D kind out))
theorem fewL_iff {W H D : Int} {kind out q : List Int} : fewL W H D kind out q = true ↔ kind.length ≤ 40 ∧ out.length ≤ 40 ∧ q.length ≤ 10 ∧ RF W H D kind out := by
  simp [fewL, refR_iff]
set_option maxRecDepth 100000 in
set_option maxHeartbeats 1000000 in
theorem few_any (W H D : Int) (Ak Ao : Option Addr) (ck co : Nat) (kind out : List Int) (c0 : Int) (Aq : Option Addr) (cq : Nat) (q : List Int) (w : World) (hkl : kind.length ≤ maxLen) (hol : out.length ≤ maxLen) (hql : q.length ≤ maxLen) (hk : SlR w w.heap.size Ak kind) (ho : SlR w w.heap.size Ao out) :
    Calls Tryz.prog 31 #[.agg #[.int .i64 W, .int .i64 H, .int .i64 D, .slice Ak kind.length ck, .slice Ao out.length co], .agg #[.int .i64 c0, .slice Aq q.length cq]] w fun e w' => e = .returned (.bool (fewL W H D kind out q)) ∧ Below w.heap.size w w' := by
  unfold maxLen at hkl hol hql
  have hb0 : Below w.heap.size w ((w.alloc (Obj.cells #[.int .i64 W, .int .i64 H, .int .i64 D, .slice Ak kind.length ck, .slice Ao out.length co] 24)).alloc (Obj.cells #[.int .i64 c0, .slice Aq q.length cq] 48)) := by (repeat (first | exact Below.refl _ _ | assumption | refine below_drewN ?_ _ | refine Below.drew ?_ | refine Below.alloc ?_ (by (try simp); (try omega)) _ | refine Below.setCell ?_ (by (try simp); (try omega)) _))
  by_cases h1 : (kind.length : Int) ≤ 40
  · by_cases h2 : (out.length : Int) ≤ 40
    · by_cases h3 : (q.length : Int) ≤ 10
      · have hr := hid (show fewL W H D kind out q = refR W H D kind out by rw [fewL, decide_eq_true (show kind.length ≤ 40 by omega), decide_eq_true (show out.length ≤ 40 by omega), decide_eq_true (show q.length ≤ 10 by omega)]; simp)
        go_enter Tryz.func31, Tryz.ntmps31
        go_wp2_with fail
        refine (refRight_any _ _ _ _ _ _ _ _ _ _ (by unfold maxLen; omega) (by unfold maxLen; omega) ((hk.below hb0).more (by simp; omega)) ((ho.below hb0).more (by simp; omega))).mono ?_
        rintro e w1 ⟨rfl, hB⟩
        have hb1 := hb0.trans (hB.mono (by simp; omega))
        go_wp2_with fail
        go_ret
        exact ⟨ret_bool hr.out.symm, hb1⟩
      · have hr := hid (show fewL W H D kind out q = false by simp [fewL]; intros; omega)
        go_enter Tryz.func31, Tryz.ntmps31
        go_wp2_with fail
        go_ret
        exact ⟨ret_bool hr.out.symm, hb0⟩
    · have hr := hid (show fewL W H D kind out q = false by simp [fewL]; intros; omega)
      go_enter Tryz.func31, Tryz.ntmps31
      go_wp2_with fail
      go_ret
      exact ⟨ret_bool hr.out.symm, hb0⟩
  · have hr := hid (show fewL W H D kind out q = false by simp [fewL]; intros; omega)
    go_enter Tryz.func31, Tryz.ntmps31
    go_wp2_with fail
    go_ret
    exact ⟨ret_bool hr.out.symm, hb0⟩
end Go.Proofs.YtnnephifjikkdaaGreatDoor
