
/- Floors: what is right: the reference for any floor, the program for right floors. -/
import Derived.Test.YtnnephifjikkdaaGreatDoorFloE
set_option linter.unusedSimpArgs false
set_option linter.unusedVariables false
namespace Go.Proofs.YtnnephifjikkdaaGreatDoor
open Go.RowKit Go.IntWalk

def okK (x : Int) : Bool := decide (0 ≤ x ∧ x < 7)
def okO (x : Int) : Bool := decide (0 ≤ x ∧ x ≤ 63)
def refR (W H D : Int) (kind out : List Int) : Bool :=
  decide (1 ≤ W ∧ 1 ≤ H ∧ 1 ≤ D ∧ D ≤ 4 ∧ W ≤ 4096 ∧ H ≤ 4096 ∧ W * H * D ≤ 4096 ∧ (kind.length : Int) = W * H * D ∧ (out.length : Int) = W * H * D) && (kind.all okK && out.all okO)
theorem refR_iff {W H D : Int} {kind out : List Int} : refR W H D kind out = true ↔ RF W H D kind out := by
  unfold refR
  simp only [Bool.and_eq_true, decide_eq_true_eq, List.all_eq_true, okK, okO]
  constructor
  · rintro ⟨⟨a1, a2, a3, a4, a5, a6, a7, a8, a9⟩, hk, ho⟩
    exact ⟨⟨a1, a5, a2, a6, a3, a4, a7⟩, a8, a9, hk, ho⟩
  · rintro ⟨⟨a1, a5, a2, a6, a3, a4, a7⟩, a8, a9, hk, ho⟩
    exact ⟨⟨a1, a2, a3, a4, a5, a6, a7, a8, a9⟩, hk, ho⟩
/-- From k on both lists are as they must be. -/
def tailR (kind out : List Int) (k : Nat) : Bool := (kind.drop k).all okK && (out.drop k).all okO
theorem tailR_step {kind out : List Int} {k : Nat} (h1 : k < kind.length) (h2 : k < out.length) : tailR kind out k = ((okK kind[k] && okO out[k]) && tailR kind out (k+1)) := by
  unfold tailR
  rw [List.drop_eq_getElem_cons h1, List.drop_eq_getElem_cons h2]
  simp only [List.all_cons]
  cases okK kind[k] <;> cases okO out[k] <;> simp
theorem tailR_end {kind out : List Int} {k : Nat} (h1 : kind.length ≤ k) (h2 : out.length ≤ k) : tailR kind out k = true := by
  unfold tailR
  rw [List.drop_eq_nil_of_le h1, List.drop_eq_nil_of_le h2]; rfl

set_option maxRecDepth 100000 in
set_option maxHeartbeats 4000000 in
theorem refRight_any (W H D : Int) (Ak Ao : Option Addr) (ck co : Nat) (kind out : List Int) (w : World) (hkl : kind.length ≤ maxLen) (hol : out.length ≤ maxLen) (hk : SlR w w.heap.size Ak kind) (ho : SlR w w.heap.size Ao out) :
    Calls Tryz.prog 75 #[.agg #[.int .i64 W, .int .i64 H, .int .i64 D, .slice Ak kind.length ck, .slice Ao out.length co]] w fun e w' => e = .returned (.bool (refR W H D kind out)) ∧ Below w.heap.size w w' := by
  unfold maxLen at hkl hol
  have hb0 : Below w.heap.size w (w.alloc (Obj.cells #[Value.int .i64 W, Value.int .i64 H, Value.int .i64 D, Value.slice Ak kind.length ck, Value.slice Ao out.length co] 24)) := (Below.refl _ w).alloc (Nat.le_refl _) _
  go_enter Tryz.func75, Tryz.ntmps75
  by_cases a1 : W < 1
  · have hr := hid (show refR W H D kind out = false by simp [refR]; omega)
    go_wp2
    go_ret
    exact ⟨ret_bool hr.out.symm, by (repeat (first | exact Below.refl _ _ | assumption | refine below_drewN ?_ _ | refine Below.drew ?_ | refine Below.alloc ?_ (by (try simp); (try omega)) _ | refine Below.setCell ?_ (by (try simp); (try omega)) _))⟩
  by_cases a2 : H < 1
  · have hr := hid (show refR W H D kind out = false by simp [refR]; omega)
    go_wp2
    go_ret
    exact ⟨ret_bool hr.out.symm, by (repeat (first | exact Below.refl _ _ | assumption | refine below_drewN ?_ _ | refine Below.drew ?_ | refine Below.alloc ?_ (by (try simp); (try omega)) _ | refine Below.setCell ?_ (by (try simp); (try omega)) _))⟩
  by_cases a3 : D < 1
  · have hr := hid (show refR W H D kind out = false by simp [refR]; omega)
    go_wp2
    go_ret
    exact ⟨ret_bool hr.out.symm, by (repeat (first | exact Below.refl _ _ | assumption | refine below_drewN ?_ _ | refine Below.drew ?_ | refine Below.alloc ?_ (by (try simp); (try omega)) _ | refine Below.setCell ?_ (by (try simp); (try omega)) _))⟩
  by_cases a4 : 4 < D
  · have hr := hid (show refR W H D kind out = false by simp [refR]; omega)
    go_wp2
    go_ret
    exact ⟨ret_bool hr.out.symm, by (repeat (first | exact Below.refl _ _ | assumption | refine below_drewN ?_ _ | refine Below.drew ?_ | refine Below.alloc ?_ (by (try simp); (try omega)) _ | refine Below.setCell ?_ (by (try simp); (try omega)) _))⟩
  by_cases a5 : 4096 < W
  · have hr := hid (show refR W H D kind out = false by simp [refR]; omega)
    go_wp2
    go_ret
    exact ⟨ret_bool hr.out.symm, by (repeat (first | exact Below.refl _ _ | assumption | refine below_drewN ?_ _ | refine Below.drew ?_ | refine Below.alloc ?_ (by (try simp); (try omega)) _ | refine Below.setCell ?_ (by (try simp); (try omega)) _))⟩
  by_cases a6 : 4096 < H
  · have hr := hid (show refR W H D kind out = false by simp [refR]; omega)
    go_wp2
    go_ret
    exact ⟨ret_bool hr.out.symm, by (repeat (first | exact Below.refl _ _ | assumption | refine below_drewN ?_ _ | refine Below.drew ?_ | refine Below.alloc ?_ (by (try simp); (try omega)) _ | refine Below.setCell ?_ (by (try simp); (try omega)) _))⟩
  have m1 : 1 ≤ W * H := by have := Int.mul_le_mul (show (1:Int) ≤ W by omega) (show (1:Int) ≤ H by omega) (by decide) (by omega); simpa using this
  have m2 : W * H ≤ 16777216 := by have := Int.mul_le_mul (show W ≤ 4096 by omega) (show H ≤ 4096 by omega) (by omega) (by decide); simpa using this
  have m3 : 1 ≤ W * H * D := by have := Int.mul_le_mul m1 (show (1:Int) ≤ D by omega) (by decide) (by omega); simpa using this
  have m4 : W * H * D ≤ 67108864 := by have := Int.mul_le_mul m2 (show D ≤ 4 by omega) (by omega) (by decide); simpa using this
  by_cases a7 : 4096 < W * H * D
  · have hr := hid (show refR W H D kind out = false by simp [refR]; omega)
    go_wp2
    go_ret
    exact ⟨ret_bool hr.out.symm, by (repeat (first | exact Below.refl _ _ | assumption | refine below_drewN ?_ _ | refine Below.drew ?_ | refine Below.alloc ?_ (by (try simp); (try omega)) _ | refine Below.setCell ?_ (by (try simp); (try omega)) _))⟩
  by_cases a8 : (kind.length : Int) = W * H * D
  · by_cases a9 : (out.length : Int) = W * H * D
    · have e1 : ((kind.length : Int) != W * H * D) = false := by simp [a8]
      have e2 : ((out.length : Int) != W * H * D) = false := by simp [a9]
      have R0 : Hid (refR W H D kind out = tailR kind out 0) := by
        unfold Hid refR tailR
        rw [decide_eq_true (by omega)]; simp
      have A8 := hid a8
      have A9 := hid a9
      have ll : kind.length = out.length := by omega
      have LL := hid ll
      clear a8 a9 ll
      go_wp2_with fail
      clear e1 e2
      go_loop [4] (fun i => ∃ k : Nat, k ≤ kind.length ∧ i = .int .i64 k ∧ Hid (refR W H D kind out = tailR kind out k)) (fun i => kind.length - (intOf i).toNat)
      case atStart => exact ⟨0, by omega, rfl, R0⟩
      case round =>
        clear R0
        have a8 := A8.out
        have ll := LL.out
        have q8 : (kind.length : Int) ≤ W * H * D := by omega
        have q9 : W * H * D ≤ (kind.length : Int) := by omega
        have q10 : kind.length ≤ out.length := by omega
        have q11 : out.length ≤ kind.length := by omega
        clear a8 ll
        obtain ⟨k, hk0, rfl, hr⟩ := hrel
        by_cases hlt : k < kind.length
        · have hlo : k < out.length := by omega
          obtain ⟨b, off, rfl, hbB, g1, _⟩ := (hk.below hb0).int hlt
          obtain ⟨b', off', rfl, hbB', g2, _⟩ := (ho.below hb0).int hlo
          have hst := tailR_step hlt hlo
          obtain ⟨x, hx⟩ : ∃ x, x = kind[k] := ⟨_, rfl⟩
          obtain ⟨y, hy⟩ : ∃ y, y = out[k] := ⟨_, rfl⟩
          rw [← hx] at g1 hst
          rw [← hy] at g2 hst
          clear hx hy
          have Hst := hid hst
          clear hst
          have i1 : (k:Int) < kind.length := by omega
          have i2 : (k:Int) < out.length := by omega
          by_cases r1 : x < 0
          · have he := hid (show tailR kind out k = false by rw [Hst.out]; simp [okK, okO]; omega)
            go_wp2
            go_ret
            exact ⟨ret_bool (by rw [hr.out, he.out]), by (repeat (first | exact Below.refl _ _ | assumption | refine below_drewN ?_ _ | refine Below.drew ?_ | refine Below.alloc ?_ (by (try simp); (try omega)) _ | refine Below.setCell ?_ (by (try simp); (try omega)) _))⟩
          by_cases r2 : 7 ≤ x
          · have he := hid (show tailR kind out k = false by rw [Hst.out]; simp [okK, okO]; omega)
            go_wp2
            go_ret
            exact ⟨ret_bool (by rw [hr.out, he.out]), by (repeat (first | exact Below.refl _ _ | assumption | refine below_drewN ?_ _ | refine Below.drew ?_ | refine Below.alloc ?_ (by (try simp); (try omega)) _ | refine Below.setCell ?_ (by (try simp); (try omega)) _))⟩
          by_cases r3 : y < 0
          · have he := hid (show tailR kind out k = false by rw [Hst.out]; simp [okK, okO]; omega)
            go_wp2
            go_ret
            exact ⟨ret_bool (by rw [hr.out, he.out]), by (repeat (first | exact Below.refl _ _ | assumption | refine below_drewN ?_ _ | refine Below.drew ?_ | refine Below.alloc ?_ (by (try simp); (try omega)) _ | refine Below.setCell ?_ (by (try simp); (try omega)) _))⟩
          by_cases r4 : 63 < y
          · have he := hid (show tailR kind out k = false by rw [Hst.out]; simp [okK, okO]; omega)
            go_wp2
            go_ret
            exact ⟨ret_bool (by rw [hr.out, he.out]), by (repeat (first | exact Below.refl _ _ | assumption | refine below_drewN ?_ _ | refine Below.drew ?_ | refine Below.alloc ?_ (by (try simp); (try omega)) _ | refine Below.setCell ?_ (by (try simp); (try omega)) _))⟩
          have he : Hid (tailR kind out k = tailR kind out (k+1)) := by
            have e1 : okK x = true := by simp [okK]; omega
            have e2 : okO y = true := by simp [okO]; omega
            rw [Hid, Hst.out, e1, e2]; simp
          go_wp2
          go_round
          case rel => exact ⟨k+1, by omega, by go_num, hr.out.trans he.out⟩
          case measure => simp [intOf]; omega
        · have he := hid (tailR_end (kind := kind) (out := out) (k := k) (by omega) (by omega))
          go_wp2
          go_ret
          exact ⟨ret_bool (by rw [hr.out, he.out]), by (repeat (first | exact Below.refl _ _ | assumption | refine below_drewN ?_ _ | refine Below.drew ?_ | refine Below.alloc ?_ (by (try simp); (try omega)) _ | refine Below.setCell ?_ (by (try simp); (try omega)) _))⟩
    · have e1 : ((kind.length : Int) != W * H * D) = false := by simp [a8]
      have e2 : ((out.length : Int) != W * H * D) = true := by simp [a9]
      have hr := hid (show refR W H D kind out = false by simp only [refR, Bool.and_eq_false_iff, decide_eq_false_iff_not]; left; rintro ⟨_, _, _, _, _, _, _, _, h⟩; exact a9 h)
      clear a8 a9
      go_wp2
      go_ret
      exact ⟨ret_bool hr.out.symm, by (repeat (first | exact Below.refl _ _ | assumption | refine below_drewN ?_ _ | refine Below.drew ?_ | refine Below.alloc ?_ (by (try simp); (try omega)) _ | refine Below.setCell ?_ (by (try simp); (try omega)) _))⟩
  · have e1 : ((kind.length : Int) != W * H * D) = true := by simp [a8]
    have hr := hid (show refR W H D kind out = false by simp only [refR, Bool.and_eq_false_iff, decide_eq_false_iff_not]; left; rintro ⟨_, _, _, _, _, _, _, h, _⟩; exact a8 h)
    clear a8
    go_wp2
    go_ret
    exact ⟨ret_bool hr.out.symm, by (repeat (first | exact Below.refl _ _ | assumption | refine below_drewN ?_ _ | refine Below.drew ?_ | refine Below.alloc ?_ (by (try simp); (try omega)) _ | refine Below.setCell ?_ (by (try simp); (try omega)) _))⟩

end Go.Proofs.YtnnephifjikkdaaGreatDoor
