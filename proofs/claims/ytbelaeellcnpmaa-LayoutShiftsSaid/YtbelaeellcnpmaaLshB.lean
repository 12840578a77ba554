
/- Layouts, shifts: floors and regions that may be wrong; given. -/
import Derived.Test.YtbelaeellcnpmaaLshA
import Derived.Test.YtbelaeellcnpmaaFloF
import Derived.Test.YtbelaeellcnpmaaLayF
set_option linter.unusedSimpArgs false
set_option linter.unusedVariables false
namespace Go.Proofs.Ytbelaeellcnpmaa
open Go.RowKit Go.IntWalk

def boxL (W H D : Int) : Prop := 1 ≤ W ∧ 1 ≤ H ∧ 1 ≤ D ∧ D ≤ 4 ∧ W ≤ 4096 ∧ H ≤ 4096
instance (W H D : Int) : Decidable (boxL W H D) := by unfold boxL; infer_instance
theorem box_whd {W H D : Int} (h : boxL W H D) : (1 ≤ W * H ∧ W * H ≤ 16777216) ∧ 1 ≤ W * H * D ∧ W * H * D ≤ 67108864 := by
  obtain ⟨w1, h1, d1, d4, w2, h2⟩ := h
  have a1 : 1 ≤ W * H := by have := Int.mul_le_mul w1 h1 (by decide) (by omega); simpa using this
  have a2 : W * H ≤ 16777216 := by have := Int.mul_le_mul w2 h2 (by omega) (by decide); simpa using this
  have a3 : 1 ≤ W * H * D := by have := Int.mul_le_mul a1 d1 (by decide) (by omega); simpa using this
  have a4 : W * H * D ≤ 16777216 * 4 := Int.mul_le_mul a2 d4 (by omega) (by decide)
  exact ⟨⟨a1, a2⟩, a3, by omega⟩
set_option maxRecDepth 100000 in
set_option maxHeartbeats 400000 in
theorem size_big (W H D : Int) (Ak Ao : Option Addr) (ck co : Nat) (kind out : List Int) (w : World) (h : boxL W H D) :
    Calls Try.prog 24 #[.agg #[.int .i64 W, .int .i64 H, .int .i64 D, .slice Ak kind.length ck, .slice Ao out.length co]] w fun e w' => e = .returned (.int .i64 (W * H * D)) ∧ Below w.heap.size w w' := by
  obtain ⟨⟨a1, a2⟩, a3, a4⟩ := box_whd h
  clear h
  go_enter Try.func24, Try.ntmps24
  go_wp2_with fail
  go_ret
  exact ⟨rfl, by (repeat (first | exact Below.refl _ _ | assumption | refine below_drewN ?_ _ | refine Below.drew ?_ | refine Below.alloc ?_ (by (try simp); (try omega)) _ | refine Below.setCell ?_ (by (try simp); (try omega)) _))⟩
set_option maxRecDepth 100000 in
set_option maxHeartbeats 4000000 in
theorem fright_any (W H D : Int) (Ak Ao : Option Addr) (ck co : Nat) (kind out : List Int) (w : World) (hkl : kind.length ≤ maxLen) (hol : out.length ≤ maxLen) (hk : SlR w w.heap.size Ak kind) (ho : SlR w w.heap.size Ao out) :
    Calls Try.prog 18 #[.agg #[.int .i64 W, .int .i64 H, .int .i64 D, .slice Ak kind.length ck, .slice Ao out.length co]] w fun e w' => e = .returned (.bool (refR W H D kind out)) ∧ Below w.heap.size w w' := by
  unfold maxLen at hkl hol
  obtain ⟨w1, hw1⟩ : ∃ w1, w1 = (w.alloc (Obj.cells #[Value.int .i64 W, Value.int .i64 H, Value.int .i64 D, Value.slice Ak kind.length ck, Value.slice Ao out.length co] 24)) := ⟨_, rfl⟩
  have B1 := hid (show Below w.heap.size w w1 by rw [hw1]; (repeat (first | exact Below.refl _ _ | assumption | refine below_drewN ?_ _ | refine Below.drew ?_ | refine Below.alloc ?_ (by (try simp); (try omega)) _ | refine Below.setCell ?_ (by (try simp); (try omega)) _)))
  have X1 := hid (show Blk w1 w.heap.size 24 #[Value.int .i64 W, Value.int .i64 H, Value.int .i64 D, Value.slice Ak kind.length ck, Value.slice Ao out.length co] by rw [hw1]; exact Blk.new w _ _)
  obtain ⟨k0, k1, k2, k3, k4⟩ := blk5 X1.out
  have xz := X1.out.lt
  have HK := hid hk; have HO := hid ho
  clear hk ho
  go_enter Try.func18, Try.ntmps18
  go_upto_region 1 with fail
  rw [← hw1]
  clear hw1
  go_cut [26] (fun s wx => s = .bool (decide (¬ (1 ≤ W ∧ 1 ≤ H ∧ 1 ≤ D ∧ D ≤ 4 ∧ W ≤ 4096 ∧ H ≤ 4096))) ∧ wx = w1)
  case first =>
    go_wp2_with fail
    all_goals go_meet
    all_goals (refine ⟨congrArg Value.bool ?_, rfl⟩; rw [Bool.eq_iff_iff]; simp only [Bool.or_eq_true, decide_eq_true_eq, eq_self, true_iff]; omega)
  case rest =>
    obtain ⟨rfl, rfl⟩ := hcut
    by_cases hbx : boxL W H D
    · have HBX := hid hbx
      have hd : decide (¬ (1 ≤ W ∧ 1 ≤ H ∧ 1 ≤ D ∧ D ≤ 4 ∧ W ≤ 4096 ∧ H ≤ 4096)) = false := decide_eq_false (fun h => h hbx)
      rw [hd]
      obtain ⟨-, n1, n2⟩ := box_whd hbx
      clear hd hbx
      have HSZ := hid (size_big W H D Ak Ao ck co kind out wc HBX.out)
      go_wp2_with fail
      refine HSZ.out.mono ?_
      rintro e v1 ⟨rfl, hB⟩
      have BX := (X1.out).below hB X1.out.lt
      have B2 := hid (B1.out.trans (hB.mono B1.out.size))
      have hs1 := hid (hB.size)
      have HKr := hid (HK.out.below B2.out)
      have HOr := hid (HO.out.below B2.out)
      clear hB k0 k1 k2 k3 k4 xz
      obtain ⟨k0, k1, k2, k3, k4⟩ := blk5 BX
      have xz := BX.lt
      clear BX HK HO HSZ
      have hrf := hid (fun (h : refR W H D kind out = true) => refR_iff.1 h)
      have hfalse := hid (fun (h : ¬ (W * H * D ≤ 4096 ∧ (kind.length : Int) = W * H * D ∧ (out.length : Int) = W * H * D)) => show refR W H D kind out = false from by
        cases hq : refR W H D kind out with
        | false => rfl
        | true =>
          have := refR_iff.1 hq
          exact absurd ⟨this.s.n, this.k, this.o⟩ h)
      have htail := hid (fun (h1 : W * H * D ≤ 4096) (h2 : (kind.length : Int) = W * H * D) (h3 : (out.length : Int) = W * H * D) => show refR W H D kind out = tailR kind out 0 from by
        obtain ⟨w1, h1', d1, d4, w2, h2'⟩ := HBX.out
        unfold refR tailR
        rw [decide_eq_true (show _ from ⟨w1, h1', d1, d4, w2, h2', h1, h2, h3⟩)]
        rfl)
      clear hrf
      generalize W * H * D = M at *
      by_cases c1 : 4096 < M
      · as_aux_lemma =>
          go_wp2_with fail
          go_ret
          exact ⟨ret_bool (hfalse.out (by omega)).symm, B2.out⟩
      by_cases c2 : (kind.length : Int) = M
      case neg =>
        have c2b : ((kind.length : Int) != M) = true := by simp [c2]
        as_aux_lemma =>
          go_wp2_with fail
          go_ret
          exact ⟨ret_bool (hfalse.out (fun h => c2 h.2.1)).symm, B2.out⟩
      by_cases c3 : (out.length : Int) = M
      case neg =>
        have c2b : ((kind.length : Int) != M) = false := by simp [c2]
        have c3b : ((out.length : Int) != M) = true := by simp [c3]
        have C2 := hid c2
        clear c2
        as_aux_lemma =>
          go_wp2_with fail
          go_ret
          exact ⟨ret_bool (hfalse.out (fun h => c3 h.2.2)).symm, B2.out⟩
      have hT := hid (htail.out (by omega) c2 c3)
      have c2b : ((kind.length : Int) != M) = false := by simp [c2]
      have c3b : ((out.length : Int) != M) = false := by simp [c3]
      have C2 := hid c2; have C3 := hid c3
      have hkl4 : kind.length ≤ 4096 := by omega
      have hko : kind.length ≤ out.length := by omega
      have hok : out.length ≤ kind.length := by omega
      have hok2 := hid hok
      clear c2 c3 htail hfalse hok
      go_upto_region 7 with fail
      clear c2b c3b
      go_loopw [48] (fun i wr => ∃ k : Nat, k ≤ kind.length ∧ i = .int .i64 k ∧ tailR kind out 0 = tailR kind out k ∧ v1 = wr) (fun i _ => kind.length - (intOf i).toNat)
      case atStart => exact ⟨0, by omega, rfl, rfl, rfl⟩
      case round =>
        obtain ⟨k, hk, rfl, htl, rfl⟩ := hrel
        have HTL := hid htl
        clear htl
        by_cases hlt : k < kind.length
        case pos =>
          have hlo : k < out.length := by omega
          have i1 : (k : Int) < kind.length := by omega
          have i2 : (k : Int) < out.length := by omega
          obtain ⟨b, off, rfl, hbB, g1, _⟩ := HKr.out.int hlt
          obtain ⟨b', off', rfl, hbB', g2, _⟩ := HOr.out.int hlo
          have hst := hid (tailR_step hlt hlo)
          generalize kind[k] = x at *
          generalize out[k] = y at *
          by_cases hx : x < 0
          · have hr := hid (show refR W H D kind out = false by rw [hT.out, HTL.out, hst.out]; have : okK x = false := decide_eq_false (by omega); simp [this])
            as_aux_lemma =>
              go_wp2_with fail
              go_ret
              exact ⟨ret_bool hr.out.symm, B2.out⟩
          by_cases hx7 : 7 ≤ x
          · have hr := hid (show refR W H D kind out = false by rw [hT.out, HTL.out, hst.out]; have : okK x = false := decide_eq_false (by omega); simp [this])
            as_aux_lemma =>
              go_wp2_with fail
              go_ret
              exact ⟨ret_bool hr.out.symm, B2.out⟩
          by_cases hy : y < 0
          · have hr := hid (show refR W H D kind out = false by rw [hT.out, HTL.out, hst.out]; have : okO y = false := decide_eq_false (by omega); simp [this])
            as_aux_lemma =>
              go_wp2_with fail
              go_ret
              exact ⟨ret_bool hr.out.symm, B2.out⟩
          by_cases hy6 : 63 < y
          · have hr := hid (show refR W H D kind out = false by rw [hT.out, HTL.out, hst.out]; have : okO y = false := decide_eq_false (by omega); simp [this])
            as_aux_lemma =>
              go_wp2_with fail
              go_ret
              exact ⟨ret_bool hr.out.symm, B2.out⟩
          have hr := hid (show tailR kind out 0 = tailR kind out (k + 1) by rw [HTL.out, hst.out]; have h1 : okK x = true := decide_eq_true (by omega); have h2 : okO y = true := decide_eq_true (by omega); simp [h1, h2])
          as_aux_lemma =>
            go_wp2_with fail
            go_roundw
            case rel => exact ⟨k + 1, by omega, by go_num, hr.out, by first | rfl | trivial⟩
            case measure => simp [intOf]; omega
        case neg =>
          have hr := hid (show refR W H D kind out = true by rw [hT.out, HTL.out]; exact tailR_end (by omega) (by have := hok2.out; omega))
          as_aux_lemma =>
            go_wp2_with fail
            go_ret
            exact ⟨ret_bool hr.out.symm, B2.out⟩
    · have hd : decide (¬ (1 ≤ W ∧ 1 ≤ H ∧ 1 ≤ D ∧ D ≤ 4 ∧ W ≤ 4096 ∧ H ≤ 4096)) = true := decide_eq_true hbx
      rw [hd]
      have hr := hid (show refR W H D kind out = false from by
        cases hq : refR W H D kind out with
        | false => rfl
        | true =>
          have := refR_iff.1 hq
          exact absurd ⟨this.s.w1, this.s.h1, this.s.d1, this.s.d2, this.s.w2, this.s.h2⟩ hbx)
      clear hd hbx
      go_wp2_with fail
      go_ret
      exact ⟨ret_bool hr.out.symm, B1.out⟩
/-! ### Regions -/
def ascR : Int → List Int → Bool
  | _, [] => true
  | last, x :: r => decide (last < x) && decide (x < 4096) && ascR x r
def regN (r : List Int) : Bool := ascR (-1) r
def lastR (l : List Int) (k : Nat) : Int := if k = 0 then -1 else l.getD (k - 1) 0
theorem lastR_succ (l : List Int) (k : Nat) (hk : k < l.length) : lastR l (k + 1) = l[k] := by simp [lastR, hk]
theorem dropR_cons {α : Type} (l : List α) (k : Nat) (hk : k < l.length) : l.drop k = l[k] :: l.drop (k + 1) := by rw [List.drop_eq_getElem_cons hk]
theorem ascR_mem : ∀ {l : List Int} {last : Int}, ascR last l = true → ∀ x ∈ l, last < x ∧ x < 4096
  | x :: r, last, h, y, hy => by
    simp only [ascR, Bool.and_eq_true, decide_eq_true_eq] at h
    rcases List.mem_cons.1 hy with rfl | hy
    · exact ⟨h.1.1, h.1.2⟩
    · have := ascR_mem h.2 y hy; omega
theorem ascR_pw : ∀ {l : List Int} {last : Int}, ascR last l = true → l.Pairwise (· < ·)
  | [], _, _ => List.Pairwise.nil
  | x :: r, last, h => by
    simp only [ascR, Bool.and_eq_true, decide_eq_true_eq] at h
    exact List.pairwise_cons.2 ⟨fun y hy => (ascR_mem h.2 y hy).1, ascR_pw h.2⟩
set_option maxRecDepth 100000 in
set_option maxHeartbeats 2000000 in
theorem region_any (A : Option Addr) (c : Nat) (l : List Int) (w : World) (hl : l.length ≤ maxLen) (h : SlR w w.heap.size A l) :
    Calls Try.prog 19 #[.slice A l.length c] w fun e w' => e = .returned (.bool (regN l)) ∧ Below w.heap.size w w' := by
  unfold maxLen at hl
  have HC := hid isCell_any
  go_enter Try.func19, Try.ntmps19
  go_wp2_with fail
  go_loopw [7] (fun i wr => ∃ k : Nat, k ≤ l.length ∧ i = .int .i64 k ∧ w = wr ∧ ascR (-1) l = ascR (lastR l k) (l.drop k) ∧ -1 ≤ lastR l k) (fun i _ => l.length - (intOf i).toNat)
  case atStart => exact ⟨0, by omega, rfl, rfl, by simp [lastR], by simp [lastR]⟩
  case round =>
    obtain ⟨k, hk, rfl, rfl, ha, hlo⟩ := hrel
    have HA := hid ha
    have HLO := hid hlo
    clear ha hlo
    by_cases hlt : k < l.length
    · have hlt' : (k : Int) < l.length := by omega
      obtain ⟨b, off, rfl, hb, hc0, hi0⟩ := h.int hlt
      have HST := hid (show ascR (lastR l k) (l.drop k) = (decide (lastR l k < l[k]) && decide (l[k] < 4096) && ascR l[k] (l.drop (k + 1))) by rw [dropR_cons l k hlt]; rfl)
      have HL := hid (lastR_succ l k hlt)
      have hprev : 0 < k → w.cell? ⟨b, off + (k - 1), none⟩ = some (.int .i64 (lastR l k)) := fun h0 => by
        have := h.int_at (k := k - 1) (by omega)
        rw [this]; simp [lastR, show ¬ k = 0 by omega, show k - 1 < l.length by omega]
      have hk0 : k = 0 → lastR l k = -1 := fun e => by simp [lastR, e]
      have hcx := hid (HC.out l[k] w)
      generalize l[k] = x at *
      generalize lastR l k = y at *
      clear hi0
      by_cases hin : 0 ≤ x ∧ x < 4096
      case neg =>
        rw [decide_eq_false hin] at hcx
        have hr := hid (show regN l = false by unfold regN; rw [HA.out, HST.out]; have := HLO.out; have h9 : (decide (y < x) && decide (x < 4096)) = false := (by rw [Bool.and_eq_false_iff, decide_eq_false_iff_not, decide_eq_false_iff_not]; omega); rw [h9]; rfl)
        clear hprev hk0
        as_aux_lemma =>
          go_wp2_with fail
          refine hcx.out.mono ?_
          rintro e v ⟨rfl, rfl⟩
          go_wp2_with fail
          go_ret
          exact ⟨ret_bool hr.out.symm, Below.refl _ _⟩
      rw [decide_eq_true hin] at hcx
      obtain ⟨hx0, hx4⟩ := hin
      by_cases hz : 0 < k
      · have hz' : (0 : Int) < k := by omega
        have hcp := hprev hz
        obtain ⟨j, rfl⟩ : ∃ j, k = j + 1 := ⟨k - 1, by omega⟩
        simp only [Nat.add_sub_cancel] at hcp
        clear hprev hk0
        by_cases hle : x ≤ y
        · have hr := hid (show regN l = false by unfold regN; rw [HA.out, HST.out]; have h9 : ¬ y < x := (by omega); simp [h9])
          as_aux_lemma =>
            go_wp2_with fail
            refine hcx.out.mono ?_
            rintro e v ⟨rfl, rfl⟩
            go_wp2_with fail
            go_ret
            exact ⟨ret_bool hr.out.symm, Below.refl _ _⟩
        · as_aux_lemma =>
            go_wp2_with fail
            refine hcx.out.mono ?_
            rintro e v ⟨rfl, rfl⟩
            go_wp2_with fail
            go_roundw
            case rel => exact ⟨j + 1 + 1, by omega, by go_num, by first | trivial | rfl, by rw [HA.out, HST.out, HL.out]; have h1 : y < x := (by omega); simp [h1, hx4], by rw [HL.out]; omega⟩
            case measure => simp [intOf]; omega
      · have hk9 : k = 0 := by omega
        have hy := hk0 hk9
        subst hk9
        clear hprev hk0
        simp only [Nat.add_zero] at hc0
        as_aux_lemma =>
          go_wp2_with fail
          refine hcx.out.mono ?_
          rintro e v ⟨rfl, rfl⟩
          go_wp2_with fail
          go_roundw
          case rel => exact ⟨1, by omega, by go_num, by first | trivial | rfl, by rw [HA.out, HST.out, HL.out]; have h1 : y < x := (by omega); simp [h1, hx4], by rw [HL.out]; omega⟩
          case measure => simp [intOf]; omega
    · obtain rfl : k = l.length := by omega
      go_wp2_with fail
      go_ret
      exact ⟨ret_bool (by unfold regN; rw [HA.out]; simp [ascR]), Below.refl _ _⟩
/-! ### given -/
def givenN (W H D : Int) (kind out r : List Int) (l : List Bool) (t : Int) : Bool := (decide (kind.length ≤ 60) && decide (out.length ≤ 60)) && decide (r.length ≤ 24) && rightL l t && decide (r.length = l.length) && refR W H D kind out && regN r
theorem few_any (W H D : Int) (Ak Ao : Option Addr) (ck co : Nat) (kind out : List Int) (n : Int) (w : World) (hkl : kind.length ≤ maxLen) (hol : out.length ≤ maxLen) :
    Calls Try.prog 17 #[.agg #[.int .i64 W, .int .i64 H, .int .i64 D, .slice Ak kind.length ck, .slice Ao out.length co], .int .i64 n] w fun e w' => e = .returned (.bool (decide ((kind.length : Int) ≤ n) && decide ((out.length : Int) ≤ n))) ∧ Below w.heap.size w w' := by
  unfold maxLen at hkl hol
  by_cases h1 : (kind.length : Int) ≤ n
  · by_cases h2 : (out.length : Int) ≤ n
    · go_enter Try.func17, Try.ntmps17
      go_wp2_with fail
      go_ret
      exact ⟨ret_bool (by simp [h1, h2]), by (repeat (first | exact Below.refl _ _ | assumption | refine below_drewN ?_ _ | refine Below.drew ?_ | refine Below.alloc ?_ (by (try simp); (try omega)) _ | refine Below.setCell ?_ (by (try simp); (try omega)) _))⟩
    · go_enter Try.func17, Try.ntmps17
      go_wp2_with fail
      go_ret
      exact ⟨ret_bool (by simp [h1, h2]), by (repeat (first | exact Below.refl _ _ | assumption | refine below_drewN ?_ _ | refine Below.drew ?_ | refine Below.alloc ?_ (by (try simp); (try omega)) _ | refine Below.setCell ?_ (by (try simp); (try omega)) _))⟩
  · go_enter Try.func17, Try.ntmps17
    go_wp2_with fail
    go_ret
    exact ⟨ret_bool (by simp; omega), by (repeat (first | exact Below.refl _ _ | assumption | refine below_drewN ?_ _ | refine Below.drew ?_ | refine Below.alloc ?_ (by (try simp); (try omega)) _ | refine Below.setCell ?_ (by (try simp); (try omega)) _))⟩
set_option maxRecDepth 100000 in
set_option maxHeartbeats 4000000 in
theorem given_any (W H D : Int) (Ak Ao : Option Addr) (ck co : Nat) (kind out : List Int) (Ar Al : Option Addr) (cr cl : Nat) (r : List Int) (l : List Bool) (t : Int) (w : World) (hkl : kind.length ≤ maxLen) (hol : out.length ≤ maxLen) (hrl : r.length ≤ maxLen) (hll : l.length ≤ maxLen)
    (hk : SlR w w.heap.size Ak kind) (ho : SlR w w.heap.size Ao out) (hr : SlR w w.heap.size Ar r) (hL : SlR w w.heap.size Al l) :
    Calls Try.prog 5 #[.agg #[.int .i64 W, .int .i64 H, .int .i64 D, .slice Ak kind.length ck, .slice Ao out.length co], .slice Ar r.length cr, .agg #[.slice Al l.length cl, .int .i64 t]] w fun e w' => e = .returned (.bool (givenN W H D kind out r l t)) ∧ Below w.heap.size w w' := by
  obtain ⟨w1, hw1⟩ : ∃ w1, w1 = ((w.alloc (Obj.cells #[Value.int .i64 W, Value.int .i64 H, Value.int .i64 D, Value.slice Ak kind.length ck, Value.slice Ao out.length co] 24)).alloc (Obj.cells #[.slice Al l.length cl, .int .i64 t] 27)) := ⟨_, rfl⟩
  have B1 := hid (show Below w.heap.size w w1 by rw [hw1]; (repeat (first | exact Below.refl _ _ | assumption | refine below_drewN ?_ _ | refine Below.drew ?_ | refine Below.alloc ?_ (by (try simp); (try omega)) _ | refine Below.setCell ?_ (by (try simp); (try omega)) _)))
  have X1 := (show Blk w1 w.heap.size 24 #[Value.int .i64 W, Value.int .i64 H, Value.int .i64 D, Value.slice Ak kind.length ck, Value.slice Ao out.length co] by rw [hw1]; exact (Blk.new w _ _).alloc _)
  have X2 := (show Blk w1 (w.heap.size + 1) 27 #[.slice Al l.length cl, .int .i64 t] by rw [hw1]; exact Blk.new_at (by simp))
  have HX := hid (fun (W' : World) (hW : Below w1.heap.size w1 W') => And.intro (blk5 (X1.below hW X1.lt)) (And.intro (show W'.cell? ⟨w.heap.size + 1, 0, none⟩ = some (.slice Al l.length cl) from (bcell hW _ _ X2.lt).trans (by rw [X2.cell]; rfl)) (And.intro (show W'.cell? ⟨w.heap.size + 1, 1, none⟩ = some (.int .i64 t) from (bcell hW _ _ X2.lt).trans (by rw [X2.cell]; rfl)) (And.intro (Nat.lt_of_lt_of_le X1.lt hW.size) (Nat.lt_of_lt_of_le X2.lt hW.size)))))
  have HF := hid (few_any W H D Ak Ao ck co kind out 60 w1 hkl hol)
  have HR := hid (fun (W' : World) (hW : Below w1.heap.size w1 W') => right_any Al cl l t W' hll ((hL.below (B1.out.trans (hW.mono B1.out.size))).more (B1.out.trans (hW.mono B1.out.size)).size))
  have HFR := hid (fun (W' : World) (hW : Below w1.heap.size w1 W') => fright_any W H D Ak Ao ck co kind out W' hkl hol ((hk.below (B1.out.trans (hW.mono B1.out.size))).more (B1.out.trans (hW.mono B1.out.size)).size) ((ho.below (B1.out.trans (hW.mono B1.out.size))).more (B1.out.trans (hW.mono B1.out.size)).size))
  have HRG := hid (fun (W' : World) (hW : Below w1.heap.size w1 W') => region_any Ar cr r W' hrl ((hr.below (B1.out.trans (hW.mono B1.out.size))).more (B1.out.trans (hW.mono B1.out.size)).size))
  have HG := hid (show givenN W H D kind out r l t = ((decide (kind.length ≤ 60) && decide (out.length ≤ 60)) && decide (r.length ≤ 24) && rightL l t && decide (r.length = l.length) && refR W H D kind out && regN r) from rfl)
  have hfe : (decide ((kind.length : Int) ≤ 60) && decide ((out.length : Int) ≤ 60)) = (decide (kind.length ≤ 60) && decide (out.length ≤ 60)) := by congr 1 <;> exact decide_eq_decide.2 (by omega)
  rw [hfe] at HF
  unfold maxLen at hrl hll
  clear hfe hkl hol hk ho hr hL X1 X2
  generalize (decide (kind.length ≤ 60) && decide (out.length ≤ 60)) = f1 at *
  generalize rightL l t = f2 at *
  generalize refR W H D kind out = f3 at *
  generalize regN r = f4 at *
  generalize givenN W H D kind out r l t = G at *
  go_enter Try.func5, Try.ntmps5
  go_upto_region 1 with fail
  rw [← hw1]
  clear hw1
  obtain ⟨⟨k0, k1, k2, k3, k4⟩, l0, l1, xz, lz⟩ := HX.out w1 (Below.refl _ _)
  cases f1 with
  | false =>
    as_aux_lemma =>
      go_wp2_with fail
      refine HF.out.mono ?_
      rintro e v1 ⟨rfl, hB⟩
      have BV := hid (B1.out.trans (hB.mono B1.out.size))
      clear hB
      go_wp2_with fail
      go_ret
      exact ⟨ret_bool (by rw [HG.out]; simp), BV.out⟩
  | true =>
  go_wp2_with fail
  refine HF.out.mono ?_
  rintro e v1 ⟨rfl, hB⟩
  have B2 := hid hB
  clear hB k0 k1 k2 k3 k4 l0 l1 xz lz
  obtain ⟨⟨k0, k1, k2, k3, k4⟩, l0, l1, xz, lz⟩ := HX.out v1 B2.out
  by_cases h24 : (24 : Int) < r.length
  · as_aux_lemma =>
      go_wp2_with fail
      go_ret
      exact ⟨ret_bool (by rw [HG.out]; have : ¬ r.length ≤ 24 := (by omega); simp [this]), B1.out.trans (B2.out.mono B1.out.size)⟩
  have h24' : r.length ≤ 24 := by omega
  have HR2 := hid (HR.out v1 B2.out)
  cases f2 with
  | false =>
    as_aux_lemma =>
      go_wp2_with fail
      refine HR2.out.mono ?_
      rintro e v2 ⟨rfl, hB⟩
      have BV := hid (B1.out.trans ((B2.out.trans (hB.mono B2.out.size)).mono B1.out.size))
      clear hB
      go_wp2_with fail
      go_ret
      exact ⟨ret_bool (by rw [HG.out]; simp), BV.out⟩
  | true =>
  go_wp2_with fail
  refine HR2.out.mono ?_
  rintro e v2 ⟨rfl, hB⟩
  have B3 := hid (B2.out.trans (hB.mono B2.out.size))
  clear hB HR2 k0 k1 k2 k3 k4 l0 l1 xz lz
  obtain ⟨⟨k0, k1, k2, k3, k4⟩, l0, l1, xz, lz⟩ := HX.out v2 B3.out
  by_cases hrl2 : r.length = l.length
  case neg =>
    have hne : ((r.length : Int) != (l.length : Int)) = true := by simp; omega
    as_aux_lemma =>
      go_wp2_with fail
      go_ret
      exact ⟨ret_bool (by rw [HG.out]; simp [hrl2]), B1.out.trans (B3.out.mono B1.out.size)⟩
  have hne : ((r.length : Int) != (l.length : Int)) = false := by simp [hrl2]
  have HRL := hid hrl2
  have HFR3 := hid (HFR.out v2 B3.out)
  clear hrl2
  cases f3 with
  | false =>
    as_aux_lemma =>
      go_wp2_with fail
      refine HFR3.out.mono ?_
      rintro e v3 ⟨rfl, hB⟩
      have BV := hid (B1.out.trans ((B3.out.trans (hB.mono B3.out.size)).mono B1.out.size))
      clear hB
      go_wp2_with fail
      go_ret
      exact ⟨ret_bool (by rw [HG.out]; simp), BV.out⟩
  | true =>
  go_wp2_with fail
  refine HFR3.out.mono ?_
  rintro e v3 ⟨rfl, hB⟩
  have B4 := hid (B3.out.trans (hB.mono B3.out.size))
  clear hB HFR3 k0 k1 k2 k3 k4 l0 l1 xz lz
  have HR4 := hid (HRG.out v3 B4.out)
  go_wp2_with fail
  refine HR4.out.mono ?_
  rintro e v4 ⟨rfl, hB⟩
  have BV := hid (B1.out.trans ((B4.out.trans (hB.mono B4.out.size)).mono B1.out.size))
  clear hB
  go_wp2_with fail
  go_ret
  have a1 : decide (r.length ≤ 24) = true := decide_eq_true h24'
  have a2 : decide (r.length = l.length) = true := decide_eq_true HRL.out
  exact ⟨ret_bool (by rw [HG.out, a1, a2]; simp), BV.out⟩
end Go.Proofs.Ytbelaeellcnpmaa
