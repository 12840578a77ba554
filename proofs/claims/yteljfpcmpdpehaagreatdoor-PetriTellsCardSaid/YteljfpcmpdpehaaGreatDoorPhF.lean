
/- Petri, the reference: RightMarking, Right, Enabled, Live, IsSiphon, IsTrap (printed by gen_pgb.py). -/
import Derived.Test.YteljfpcmpdpehaaGreatDoorPhC
set_option linter.unusedSimpArgs false
set_option linter.unusedVariables false
namespace Go.Proofs.YteljfpcmpdpehaaGreatDoor
open Go.RowKit Go.IntWalk

theorem meetsN_iff {a b : List Int} : meetsN a b = true ↔ ∃ x, x ∈ a ∧ x ∈ b := by
  unfold meetsN
  rw [List.any_eq_true]
  constructor
  · rintro ⟨x, hx, h⟩
    obtain ⟨y, hy, e⟩ := List.any_eq_true.1 h
    have e := of_decide_eq_true e
    exact ⟨x, hx, e ▸ hy⟩
  · rintro ⟨x, hx, hy⟩
    exact ⟨x, hx, List.any_eq_true.2 ⟨x, hy, decide_eq_true rfl⟩⟩
theorem meets_word {n : Int} {a b : List Int} (ha : setB n a = true) (hb : setB n b = true) : meetsN a b = decide (wordN a &&& wordN b ≠ 0) := by
  have pa : ∀ p ∈ a, 0 ≤ p := fun p hp => (setB_mem ha p hp).1
  have pb : ∀ p ∈ b, 0 ≤ p := fun p hp => (setB_mem hb p hp).1
  rw [Bool.eq_iff_iff, meetsN_iff, decide_eq_true_eq]
  constructor
  · rintro ⟨x, hx, hy⟩ h0
    have := and_zero.1 h0 x.toNat
    apply this
    rw [word_bit pa, word_bit pb, show ((x.toNat : Nat) : Int) = x by have := pa x hx; omega]
    exact ⟨decide_eq_true hx, decide_eq_true hy⟩
  · intro h
    have : ¬ ∀ i, ¬ ((wordN a).testBit i = true ∧ (wordN b).testBit i = true) := fun hh => h (and_zero.2 hh)
    obtain ⟨i, hi⟩ := Classical.not_forall.1 this
    have hi := Classical.not_not.1 hi
    rw [word_bit pa, word_bit pb] at hi
    exact ⟨i, of_decide_eq_true hi.1, of_decide_eq_true hi.2⟩
theorem meets_comm (a b : List Int) : meetsN a b = meetsN b a := by
  rw [Bool.eq_iff_iff, meetsN_iff, meetsN_iff]
  exact ⟨fun ⟨x, h, k⟩ => ⟨x, k, h⟩, fun ⟨x, h, k⟩ => ⟨x, k, h⟩⟩
/-- A transition's places that a siphon (or a trap) must not have without the others. -/
def toT (trap : Bool) (t : Tr) : List Int := if trap then t.1 else t.2
def frT (trap : Bool) (t : Tr) : List Int := if trap then t.2 else t.1
def hitT (trap : Bool) (s : List Int) (t : Tr) : Bool := meetsN (toT trap t) s && !meetsN (frT trap t) s
theorem edgeN_eq (trap : Bool) (t : Tr) : edgeN trap t = (wordN (toT trap t), wordN (frT trap t)) := by
  unfold edgeN toT frT; cases trap <;> rfl
theorem edgesN_map (n : Int) (T : List Tr) (trap : Bool) : edgesN (n, T) trap = T.map (edgeN trap) := rfl
theorem net_set {n : Int} {T : List Tr} (hok : netOK (n, T) = true) (trap : Bool) {t : Tr} (ht : t ∈ T) : setB n (toT trap t) = true ∧ setB n (frT trap t) = true := by
  simp only [netOK, Bool.and_eq_true, List.all_eq_true] at hok
  have := hok.2 t ht
  unfold toT frT
  cases trap
  · exact ⟨this.2, this.1⟩
  · exact this
theorem hit_word {n : Int} {T : List Tr} (hok : netOK (n, T) = true) {s : List Int} (hs : setB n s = true) (trap : Bool) {t : Tr} (ht : t ∈ T) : hitT trap s t = hit (wordN s) (edgeN trap t) := by
  obtain ⟨h1, h2⟩ := net_set hok trap ht
  unfold hitT hit
  rw [edgeN_eq, meets_word h1 hs, meets_word h2 hs]
  simp
theorem word_nil {n : Int} {s : List Int} (hs : setB n s = true) : wordN s = 0 ↔ s = [] := by
  have pa : ∀ p ∈ s, 0 ≤ p := fun p hp => (setB_mem hs p hp).1
  constructor
  · intro h
    cases s with
    | nil => rfl
    | cons x s =>
      exfalso
      have h1 : (wordN (x :: s)).testBit x.toNat = true := by
        rw [word_bit pa, show ((x.toNat : Nat) : Int) = x by have := pa x (by simp); omega]
        exact decide_eq_true (by simp)
      rw [h, Nat.zero_testBit] at h1
      cases h1
  · rintro rfl; rfl
/-- What the reference asks of a siphon, or of a trap. -/
theorem isN_ref {n : Int} {T : List Tr} (hok : netOK (n, T) = true) (trap : Bool) (s : List Int) : isN n T trap s = (!decide (s.length = 0) && setB n s && !T.any (hitT trap s)) := by
  unfold isN
  cases hs : setB n s with
  | false => simp
  | true =>
    have e1 : decide (wordN s ≠ 0) = !decide (s.length = 0) := by
      rw [Bool.eq_iff_iff]
      simp [word_nil hs]
    have e2 : (T.map (edgeN trap)).any (hit (wordN s)) = T.any (hitT trap s) := by
      rw [List.any_map]
      rw [Bool.eq_iff_iff, List.any_eq_true, List.any_eq_true]
      constructor
      · rintro ⟨t, ht, h⟩; exact ⟨t, ht, by rw [hit_word hok hs trap ht]; exact h⟩
      · rintro ⟨t, ht, h⟩; exact ⟨t, ht, by rw [hit_word hok hs trap ht] at h; exact h⟩
    unfold closedN
    rw [edgesN_map, e1, e2]
    simp
/-! ### Largest -/
def withoutN (s l : List Int) : List Int := s.filter (fun x => !meetsN [x] l)
theorem withoutN_mem {s l : List Int} {x : Int} : x ∈ withoutN s l ↔ x ∈ s ∧ x ∉ l := by
  unfold withoutN
  rw [List.mem_filter, Bool.not_eq_true', ← Bool.not_eq_true, meetsN_iff]
  simp
theorem without_set {n : Int} {s l : List Int} (hs : setB n s = true) : setB n (withoutN s l) = true :=
  setB_of ((setB_pw hs).filter _) (fun x hx => setB_mem hs x (withoutN_mem.1 hx).1)
theorem without_word {n : Int} {s l : List Int} (hn : n ≤ 64) (hs : setB n s = true) (hl : setB n l = true) : wordN (withoutN s l) = clr (wordN s) (wordN l) := by
  have p1 : ∀ p ∈ s, 0 ≤ p := fun p hp => (setB_mem hs p hp).1
  have p2 : ∀ p ∈ l, 0 ≤ p := fun p hp => (setB_mem hl p hp).1
  refine Nat.eq_of_testBit_eq fun i => ?_
  rw [word_bit (fun p hp => p1 p (withoutN_mem.1 hp).1), clr_bit (word64 hn hs) (word64 hn hl), word_bit p1, word_bit p2, Bool.eq_iff_iff]
  simp only [decide_eq_true_eq, Bool.and_eq_true, Bool.not_eq_true', decide_eq_false_iff_not]
  exact withoutN_mem
theorem without_lt {s l : List Int} (h : meetsN l s = true) : (withoutN s l).length < s.length := by
  obtain ⟨x, hx, hy⟩ := meetsN_iff.1 h
  unfold withoutN
  refine List.length_filter_lt_length_iff_exists.2 ⟨x, hy, ?_⟩
  simp only [Bool.not_eq_true', Bool.not_eq_false]
  simpa using meetsN_iff.2 ⟨x, by simp, hx⟩
/-- One transition of the reference's round. -/
def stepR (trap : Bool) (p : List Int × Bool) (t : Tr) : List Int × Bool := if hitT trap p.1 t = true then (withoutN p.1 (toT trap t), true) else p
def passR (trap : Bool) (T : List Tr) (s : List Int) : List Int × Bool := T.foldl (stepR trap) (s, false)
theorem passR_take (trap : Bool) (T : List Tr) (s : List Int) (k : Nat) (hk : k < T.length) : passR trap (T.take (k + 1)) s = stepR trap (passR trap (T.take k) s) T[k] := by
  unfold passR
  rw [List.take_add_one, List.getElem?_eq_getElem hk, List.foldl_append]
  rfl
structure PassI (n : Int) (T : List Tr) (trap : Bool) (s : List Int) (p : List Int × Bool) : Prop where
  set : setB n p.1 = true
  word : wordN p.1 = sweep (T.map (edgeN trap)) (wordN s)
  no : p.2 = false → p.1 = s ∧ T.any (hitT trap s) = false
  yes : p.2 = true → p.1.length < s.length
  le : p.1.length ≤ s.length
theorem passI {n : Int} {T : List Tr} (hok : netOK (n, T) = true) {s : List Int} (hs : setB n s = true) (trap : Bool) : ∀ k, k ≤ T.length → PassI n (T.take k) trap s (passR trap (T.take k) s)
  | 0, _ => ⟨hs, by simp [passR, sweep], fun _ => ⟨rfl, by simp⟩, fun h => by simp [passR] at h, Nat.le_refl _⟩
  | k + 1, hk => by
    have I := passI hok hs trap k (by omega)
    have hk' : k < T.length := by omega
    have hn : n ≤ 64 := by simp only [netOK, Bool.and_eq_true, decide_eq_true_eq] at hok; omega
    obtain ⟨h1, h2⟩ := net_set hok trap (List.getElem_mem hk')
    have hsw : sweep ((T.take (k + 1)).map (edgeN trap)) (wordN s) = if (edgeN trap T[k]).2 &&& sweep ((T.take k).map (edgeN trap)) (wordN s) = 0 then clr (sweep ((T.take k).map (edgeN trap)) (wordN s)) (edgeN trap T[k]).1 else sweep ((T.take k).map (edgeN trap)) (wordN s) := by
      rw [List.take_add_one, List.getElem?_eq_getElem hk', List.map_append]
      unfold sweep
      rw [List.foldl_append]
      rfl
    rw [passR_take _ _ _ _ hk']
    generalize passR trap (T.take k) s = p at *
    obtain ⟨s', ag⟩ := p
    have hh := hit_word hok I.set trap (List.getElem_mem hk')
    unfold stepR
    have hany : (T.take (k + 1)).any (hitT trap s) = ((T.take k).any (hitT trap s) || hitT trap s T[k]) := by
      rw [List.take_add_one, List.getElem?_eq_getElem hk', List.any_append]; simp
    by_cases hq : hitT trap s' T[k] = true
    · rw [if_pos hq]
      rw [hq] at hh
      have hlt := without_lt (s := s') (l := toT trap T[k]) (by unfold hitT at hq; simp only [Bool.and_eq_true] at hq; exact hq.1)
      have hle := I.le
      unfold hit at hh
      have hh := hh.symm
      simp only [Bool.and_eq_true, decide_eq_true_eq] at hh
      refine ⟨without_set I.set, ?_, (fun h => by cases h), (fun _ => by simp only at hle ⊢; omega), (by simp only at hle ⊢; omega)⟩
      rw [hsw, ← I.word, if_pos hh.2, edgeN_eq]
      exact without_word hn I.set h1
    · rw [if_neg hq]
      have hq' : hitT trap s' T[k] = false := by simpa using hq
      rw [hq'] at hh
      refine ⟨I.set, ?_, fun h => ?_, I.yes, I.le⟩
      · rw [hsw, ← I.word]
        split
        · rename_i h0
          have hz : (edgeN trap T[k]).1 &&& wordN s' = 0 := by
            unfold hit at hh
            have hh := hh.symm
            simp only [Bool.and_eq_false_iff, decide_eq_false_iff_not, h0, not_true, or_false, Classical.not_not] at hh
            exact hh
          refine Nat.eq_of_testBit_eq fun i => ?_
          rw [clr_bit (word64 hn I.set) (by rw [edgeN_eq]; exact word64 hn h1)]
          have := and_zero.1 hz i
          cases hb : (wordN s').testBit i <;> cases hc : (edgeN trap T[k]).1.testBit i <;> simp_all
        · rfl
      · obtain ⟨e, h3⟩ := I.no h
        simp only at e
        subst e
        exact ⟨rfl, by rw [hany, h3, hq']; rfl⟩
/-- What the reference's Largest holds ahead of each round. -/
def LgI (n : Int) (T : List Tr) (trap : Bool) (s s' : List Int) : Prop := setB n s' = true ∧ ∀ r, LargeR (edgesN (n, T) trap) (wordN s') r → LargeR (edgesN (n, T) trap) (wordN s) r
theorem LgI.next {n : Int} {T : List Tr} (hok : netOK (n, T) = true) {trap : Bool} {s s' : List Int} (h : LgI n T trap s s') : LgI n T trap s (passR trap T s').1 := by
  have I := passI hok h.1 trap T.length (Nat.le_refl _)
  rw [List.take_length] at I
  have hn : n ≤ 64 := by simp only [netOK, Bool.and_eq_true, decide_eq_true_eq] at hok; omega
  refine ⟨I.set, fun r hr => h.2 r ?_⟩
  rw [I.word] at hr
  exact LargeR.step (word64 hn h.1) (large_word hok trap) hr
theorem LgI.done {n : Int} {T : List Tr} (hok : netOK (n, T) = true) {trap : Bool} {s s' : List Int} (hs : setB n s = true) (h : LgI n T trap s s') (hz : T.any (hitT trap s') = false) : LargeL n T trap s s' := by
  have hn : n ≤ 64 := by simp only [netOK, Bool.and_eq_true, decide_eq_true_eq] at hok; omega
  unfold LargeL
  rw [if_pos hs]
  refine ⟨wordN s', h.2 _ (LargeR.end_ ?_), (list_word (setB_pw h.1) (fun p hp => by have := setB_mem h.1 p hp; omega)).symm⟩
  have := isN_ref hok trap s'
  by_cases h0 : s' = []
  · exact .inl ((word_nil h.1).2 h0)
  · right
    have hl : s'.length ≠ 0 := fun e => h0 (List.eq_nil_of_length_eq_zero e)
    unfold isN at this
    rw [h.1, hz] at this
    simpa [hl] using this
theorem LargeL.uniq {n : Int} {T : List Tr} {trap : Bool} {s a b : List Int} (h : LargeL n T trap s a) (k : LargeL n T trap s b) : a = b := by
  unfold LargeL at h k
  split at h
  · rename_i hs
    rw [if_pos hs] at k
    obtain ⟨v, h1, rfl⟩ := h
    obtain ⟨u, h2, rfl⟩ := k
    rw [h1.uniq h2]
  · rename_i hs
    rw [if_neg hs] at k
    rw [h, k]
end Go.Proofs.YteljfpcmpdpehaaGreatDoor
namespace Go.Proofs.YteljfpcmpdpehaaGreatDoor
open Go.RowKit Go.IntWalk Go.Shelf

set_option maxRecDepth 100000 in
set_option maxHeartbeats 2000000 in
theorem set_r (n : Int) (A : Option Addr) (c : Nat) (l : List Int) (w : World) (hl : l.length ≤ maxLen) (h : SlR w w.heap.size A l) :
    Calls Tryz.prog 49 #[.int .i64 n, .slice A l.length c] w fun e w' => e = .returned (.bool (setB n l)) ∧ Below w.heap.size w w' := by
  unfold maxLen at hl
  go_enter Tryz.func49, Tryz.ntmps49
  go_wp2_with fail
  go_loopw [5] (fun i wr => ∃ k : Nat, k ≤ l.length ∧ i = .int .i64 k ∧ Below w.heap.size w wr ∧ asc n (-1) l = asc n (lastK l k) (l.drop k) ∧ -1 ≤ lastK l k) (fun i _ => l.length - (intOf i).toNat)
  case atStart => exact ⟨0, by omega, rfl, Below.refl _ _, by simp [lastK], by simp [lastK]⟩
  case round =>
    obtain ⟨k, hk, rfl, hB, ha, hlo⟩ := hrel
    have HA := hid ha
    have HLO := hid hlo
    have HB := hid hB
    clear ha hlo hB
    by_cases hlt : k < l.length
    · have hlt' : (k : Int) < l.length := by omega
      have hh := h.below HB.out
      obtain ⟨b, off, rfl, hb, hc0, hi0⟩ := hh.int hlt
      have hst : asc n (lastK l k) (l.drop k) = (decide (lastK l k < l[k]) && decide (l[k] < n) && asc n l[k] (l.drop (k + 1))) := by rw [drop_cons l k hlt]; rfl
      have HST := hid hst
      have HL := hid (lastK_succ l k hlt)
      have hprev := hid (show 0 < k → wr.cell? ⟨b, off + (k - 1), none⟩ = some (.int .i64 (lastK l k)) from fun h0 => by
        have := hh.int_at (k := k - 1) (by omega)
        rw [this]; simp [lastK, show ¬ k = 0 by omega, show k - 1 < l.length by omega])
      have hk0 := hid (show k = 0 → lastK l k = -1 from fun e => by simp [lastK, e])
      clear hst hh
      generalize l[k] = x at *
      generalize lastK l k = y at *
      clear hi0
      by_cases hx0 : x < 0
      · as_aux_lemma =>
          go_upto_region 4 with fail
          have BD := hid HB.out.drew
          refine wpIn_wide.1 (wpIn_region_S (n := 0) (fun wq => wq.cell? ⟨b, off + k, none⟩ = some (.int .i64 x)) [] (by kernel_rfl) (hc0) (fun hHeld => ?_))
          have HSF := hid (fun (wq : World) (hq : wq.cell? ⟨b, off + k, none⟩ = some (.int .i64 x)) => hq)
          clear HB
          generalize wr.drew = wd at *
          refine wpAnyG_pure 0 (v := ?_) (fun _ => trivial) (by simp only [List.getElem?_toArray, List.getElem?_cons_succ, List.getElem?_cons_zero]; rfl) (by kernel_rfl) (fun _ _ _ _ _ h => h) ⟨(by rfl), (by intro c h; cases h), ?_⟩ hHeld ?_
          rotate_left
          focus (intro wS hSw; (try replace hSw := HSF.out wS hSw); (try dsimp only at hSw); go_simp; (try with_reducible rfl))
          (try simp only [Act.put, List.setIfInBounds_toArray, List.set_cons_zero, List.set_cons_succ])
          refine wpAnyG_pure 1 (v := ?_) (fun _ => trivial) (by simp only [List.getElem?_toArray, List.getElem?_cons_succ, List.getElem?_cons_zero]; rfl) (by kernel_rfl) (fun _ _ _ _ _ h => h) ⟨(by rfl), (by intro c h; cases h), ?_⟩ hHeld ?_
          rotate_left
          focus (intro wS hSw; (try replace hSw := HSF.out wS hSw); (try dsimp only at hSw); go_simp; (try with_reducible rfl))
          (try simp only [Act.put, List.setIfInBounds_toArray, List.set_cons_zero, List.set_cons_succ])
          refine wpAnyG_pure 2 (v := ?_) (fun _ => trivial) (by simp only [List.getElem?_toArray, List.getElem?_cons_succ, List.getElem?_cons_zero]; rfl) (by kernel_rfl) (fun _ _ _ _ _ h => h) ⟨(by rfl), (by intro c h; cases h), ?_⟩ hHeld ?_
          rotate_left
          focus (intro wS hSw; (try replace hSw := HSF.out wS hSw); (try dsimp only at hSw); go_simp; (try with_reducible rfl))
          (try simp only [Act.put, List.setIfInBounds_toArray, List.set_cons_zero, List.set_cons_succ])
          refine wpAnyG_take 3 (v := ?_) (fun _ => trivial) (by simp only [List.getElem?_toArray, List.getElem?_cons_succ, List.getElem?_cons_zero]; rfl) (by kernel_rfl) (fun _ _ _ _ _ h => h) ⟨(by rfl), (by intro c h; cases h), ?_⟩ hHeld ?_
          rotate_left
          focus (intro wS hSw; (try replace hSw := HSF.out wS hSw); (try dsimp only at hSw); go_simp; (try with_reducible rfl))
          (try simp only [Act.put, List.setIfInBounds_toArray, List.set_cons_zero, List.set_cons_succ])
          refine wpAnyG_pure 4 (v := ?_) (fun _ => trivial) (by simp only [List.getElem?_toArray, List.getElem?_cons_succ, List.getElem?_cons_zero]; rfl) (by kernel_rfl) (fun _ _ _ _ _ h => h) ⟨(by rfl), (by intro c h; cases h), ?_⟩ hHeld ?_
          rotate_left
          focus (intro wS hSw; (try replace hSw := HSF.out wS hSw); (try dsimp only at hSw); go_simp; (try with_reducible rfl))
          (try simp only [Act.put, List.setIfInBounds_toArray, List.set_cons_zero, List.set_cons_succ])
          refine wpAnyG_pure 5 (v := ?_) (fun _ => trivial) (by simp only [List.getElem?_toArray, List.getElem?_cons_succ, List.getElem?_cons_zero]; rfl) (by kernel_rfl) (fun _ _ _ _ _ h => h) ⟨(by rfl), (by intro c h; cases h), ?_⟩ hHeld ?_
          rotate_left
          focus (intro wS hSw; (try replace hSw := HSF.out wS hSw); (try dsimp only at hSw); go_simp; (try with_reducible rfl))
          (try simp only [Act.put, List.setIfInBounds_toArray, List.set_cons_zero, List.set_cons_succ])
          refine wpAnyG_skip 6 (fun _ => trivial) (by simp only [List.getElem?_toArray, List.getElem?_cons_succ, List.getElem?_cons_zero]; rfl) (by kernel_rfl) (fun _ _ _ _ _ h => h) (by rfl) hHeld ?_
          (try simp only [Act.put, List.setIfInBounds_toArray, List.set_cons_zero, List.set_cons_succ])
          refine wpAnyG_skip 7 (fun _ => trivial) (by simp only [List.getElem?_toArray, List.getElem?_cons_succ, List.getElem?_cons_zero]; rfl) (by kernel_rfl) (fun _ _ _ _ _ h => h) (by rfl) hHeld ?_
          (try simp only [Act.put, List.setIfInBounds_toArray, List.set_cons_zero, List.set_cons_succ])
          refine wpAnyG_skip 8 (fun _ => trivial) (by simp only [List.getElem?_toArray, List.getElem?_cons_succ, List.getElem?_cons_zero]; rfl) (by kernel_rfl) (fun _ _ _ _ _ h => h) (by rfl) hHeld ?_
          (try simp only [Act.put, List.setIfInBounds_toArray, List.set_cons_zero, List.set_cons_succ])
          refine wpAnyG_skip 9 (fun _ => trivial) (by simp only [List.getElem?_toArray, List.getElem?_cons_succ, List.getElem?_cons_zero]; rfl) (by kernel_rfl) (fun _ _ _ _ _ h => h) (by rfl) hHeld ?_
          (try simp only [Act.put, List.setIfInBounds_toArray, List.set_cons_zero, List.set_cons_succ])
          refine wpAnyG_skip 10 (fun _ => trivial) (by simp only [List.getElem?_toArray, List.getElem?_cons_succ, List.getElem?_cons_zero]; rfl) (by kernel_rfl) (fun _ _ _ _ _ h => h) (by rfl) hHeld ?_
          (try simp only [Act.put, List.setIfInBounds_toArray, List.set_cons_zero, List.set_cons_succ])
          refine wpAnyG_skip 11 (fun _ => trivial) (by simp only [List.getElem?_toArray, List.getElem?_cons_succ, List.getElem?_cons_zero]; rfl) (by kernel_rfl) (fun _ _ _ _ _ h => h) (by rfl) hHeld ?_
          (try simp only [Act.put, List.setIfInBounds_toArray, List.set_cons_zero, List.set_cons_succ])
          refine wpAnyG_pure 12 (v := ?_) (fun _ => trivial) (by simp only [List.getElem?_toArray, List.getElem?_cons_succ, List.getElem?_cons_zero]; rfl) (by kernel_rfl) (fun _ _ _ _ _ h => h) ⟨(by rfl), (by intro c h; cases h), ?_⟩ hHeld ?_
          rotate_left
          focus (intro wS hSw; (try replace hSw := HSF.out wS hSw); (try dsimp only at hSw); go_simp; (try with_reducible rfl))
          (try simp only [Act.put, List.setIfInBounds_toArray, List.set_cons_zero, List.set_cons_succ])
          refine wpAnyG_pure 13 (v := ?_) (fun _ => trivial) (by simp only [List.getElem?_toArray, List.getElem?_cons_succ, List.getElem?_cons_zero]; rfl) (by kernel_rfl) (fun _ _ _ _ _ h => h) ⟨(by rfl), (by intro c h; cases h), ?_⟩ hHeld ?_
          rotate_left
          focus (intro wS hSw; (try replace hSw := HSF.out wS hSw); (try dsimp only at hSw); go_simp; (try with_reducible rfl))
          (try simp only [Act.put, List.setIfInBounds_toArray, List.set_cons_zero, List.set_cons_succ])
          refine wpAnyG_skip 14 (fun _ => trivial) (by simp only [List.getElem?_toArray, List.getElem?_cons_succ, List.getElem?_cons_zero]; rfl) (by kernel_rfl) (fun _ _ _ _ _ h => h) (by rfl) hHeld ?_
          (try simp only [Act.put, List.setIfInBounds_toArray, List.set_cons_zero, List.set_cons_succ])
          refine wpAnyG_skip 15 (fun _ => trivial) (by simp only [List.getElem?_toArray, List.getElem?_cons_succ, List.getElem?_cons_zero]; rfl) (by kernel_rfl) (fun _ _ _ _ _ h => h) (by rfl) hHeld ?_
          (try simp only [Act.put, List.setIfInBounds_toArray, List.set_cons_zero, List.set_cons_succ])
          refine wpAnyG_skip 16 (fun _ => trivial) (by simp only [List.getElem?_toArray, List.getElem?_cons_succ, List.getElem?_cons_zero]; rfl) (by kernel_rfl) (fun _ _ _ _ _ h => h) (by rfl) hHeld ?_
          (try simp only [Act.put, List.setIfInBounds_toArray, List.set_cons_zero, List.set_cons_succ])
          refine wpAnyG_skip 17 (fun _ => trivial) (by simp only [List.getElem?_toArray, List.getElem?_cons_succ, List.getElem?_cons_zero]; rfl) (by kernel_rfl) (fun _ _ _ _ _ h => h) (by rfl) hHeld ?_
          (try simp only [Act.put, List.setIfInBounds_toArray, List.set_cons_zero, List.set_cons_succ])
          refine wpAnyG_skip 18 (fun _ => trivial) (by simp only [List.getElem?_toArray, List.getElem?_cons_succ, List.getElem?_cons_zero]; rfl) (by kernel_rfl) (fun _ _ _ _ _ h => h) (by rfl) hHeld ?_
          (try simp only [Act.put, List.setIfInBounds_toArray, List.set_cons_zero, List.set_cons_succ])
          refine wpAnyG_skip 19 (fun _ => trivial) (by simp only [List.getElem?_toArray, List.getElem?_cons_succ, List.getElem?_cons_zero]; rfl) (by kernel_rfl) (fun _ _ _ _ _ h => h) (by rfl) hHeld ?_
          (try simp only [Act.put, List.setIfInBounds_toArray, List.set_cons_zero, List.set_cons_succ])
          refine wpAnyG_skip 20 (fun _ => trivial) (by simp only [List.getElem?_toArray, List.getElem?_cons_succ, List.getElem?_cons_zero]; rfl) (by kernel_rfl) (fun _ _ _ _ _ h => h) (by rfl) hHeld ?_
          (try simp only [Act.put, List.setIfInBounds_toArray, List.set_cons_zero, List.set_cons_succ])
          refine wpAnyG_skip 21 (fun _ => trivial) (by simp only [List.getElem?_toArray, List.getElem?_cons_succ, List.getElem?_cons_zero]; rfl) (by kernel_rfl) (fun _ _ _ _ _ h => h) (by rfl) hHeld ?_
          (try simp only [Act.put, List.setIfInBounds_toArray, List.set_cons_zero, List.set_cons_succ])
          refine wpAnyG_skip 22 (fun _ => trivial) (by simp only [List.getElem?_toArray, List.getElem?_cons_succ, List.getElem?_cons_zero]; rfl) (by kernel_rfl) (fun _ _ _ _ _ h => h) (by rfl) hHeld ?_
          (try simp only [Act.put, List.setIfInBounds_toArray, List.set_cons_zero, List.set_cons_succ])
          refine wpAnyG_skip 23 (fun _ => trivial) (by simp only [List.getElem?_toArray, List.getElem?_cons_succ, List.getElem?_cons_zero]; rfl) (by kernel_rfl) (fun _ _ _ _ _ h => h) (by rfl) hHeld ?_
          (try simp only [Act.put, List.setIfInBounds_toArray, List.set_cons_zero, List.set_cons_succ])
          refine wpAnyG_skip 24 (fun _ => trivial) (by simp only [List.getElem?_toArray, List.getElem?_cons_succ, List.getElem?_cons_zero]; rfl) (by kernel_rfl) (fun _ _ _ _ _ h => h) (by rfl) hHeld ?_
          (try simp only [Act.put, List.setIfInBounds_toArray, List.set_cons_zero, List.set_cons_succ])
          refine wpAnyG_skip 25 (fun _ => trivial) (by simp only [List.getElem?_toArray, List.getElem?_cons_succ, List.getElem?_cons_zero]; rfl) (by kernel_rfl) (fun _ _ _ _ _ h => h) (by rfl) hHeld ?_
          (try simp only [Act.put, List.setIfInBounds_toArray, List.set_cons_zero, List.set_cons_succ])
          refine wpAnyG_skip 26 (fun _ => trivial) (by simp only [List.getElem?_toArray, List.getElem?_cons_succ, List.getElem?_cons_zero]; rfl) (by kernel_rfl) (fun _ _ _ _ _ h => h) (by rfl) hHeld ?_
          (try simp only [Act.put, List.setIfInBounds_toArray, List.set_cons_zero, List.set_cons_succ])
          refine wpAnyG_skip 27 (fun _ => trivial) (by simp only [List.getElem?_toArray, List.getElem?_cons_succ, List.getElem?_cons_zero]; rfl) (by kernel_rfl) (fun _ _ _ _ _ h => h) (by rfl) hHeld ?_
          (try simp only [Act.put, List.setIfInBounds_toArray, List.set_cons_zero, List.set_cons_succ])
          refine wpAnyG_skip 28 (fun _ => trivial) (by simp only [List.getElem?_toArray, List.getElem?_cons_succ, List.getElem?_cons_zero]; rfl) (by kernel_rfl) (fun _ _ _ _ _ h => h) (by rfl) hHeld ?_
          (try simp only [Act.put, List.setIfInBounds_toArray, List.set_cons_zero, List.set_cons_succ])
          refine wpAnyG_pure 29 (v := ?_) (fun _ => trivial) (by simp only [List.getElem?_toArray, List.getElem?_cons_succ, List.getElem?_cons_zero]; rfl) (by kernel_rfl) (fun _ _ _ _ _ h => h) ⟨(by rfl), (by intro c h; cases h), ?_⟩ hHeld ?_
          rotate_left
          focus (intro wS hSw; (try replace hSw := HSF.out wS hSw); (try dsimp only at hSw); go_simp; (try with_reducible rfl))
          (try simp only [Act.put, List.setIfInBounds_toArray, List.set_cons_zero, List.set_cons_succ])
          refine wpAnyS_done (by kernel_rfl) ?_
          clear hHeld HSF
          go_wp2_with fail
          go_ret
          exact ⟨ret_bool (by unfold setB; rw [HA.out, HST.out]; have := HLO.out; have h1 : ¬ y < x := (by omega); simp [h1]), BD.out⟩
      by_cases hxn : n ≤ x
      · as_aux_lemma =>
          go_upto_region 4 with fail
          have BD := hid HB.out.drew
          refine wpIn_wide.1 (wpIn_region_S (n := 0) (fun wq => wq.cell? ⟨b, off + k, none⟩ = some (.int .i64 x)) [] (by kernel_rfl) (hc0) (fun hHeld => ?_))
          have HSF := hid (fun (wq : World) (hq : wq.cell? ⟨b, off + k, none⟩ = some (.int .i64 x)) => hq)
          clear HB
          generalize wr.drew = wd at *
          refine wpAnyG_pure 0 (v := ?_) (fun _ => trivial) (by simp only [List.getElem?_toArray, List.getElem?_cons_succ, List.getElem?_cons_zero]; rfl) (by kernel_rfl) (fun _ _ _ _ _ h => h) ⟨(by rfl), (by intro c h; cases h), ?_⟩ hHeld ?_
          rotate_left
          focus (intro wS hSw; (try replace hSw := HSF.out wS hSw); (try dsimp only at hSw); go_simp; (try with_reducible rfl))
          (try simp only [Act.put, List.setIfInBounds_toArray, List.set_cons_zero, List.set_cons_succ])
          refine wpAnyG_pure 1 (v := ?_) (fun _ => trivial) (by simp only [List.getElem?_toArray, List.getElem?_cons_succ, List.getElem?_cons_zero]; rfl) (by kernel_rfl) (fun _ _ _ _ _ h => h) ⟨(by rfl), (by intro c h; cases h), ?_⟩ hHeld ?_
          rotate_left
          focus (intro wS hSw; (try replace hSw := HSF.out wS hSw); (try dsimp only at hSw); go_simp; (try with_reducible rfl))
          (try simp only [Act.put, List.setIfInBounds_toArray, List.set_cons_zero, List.set_cons_succ])
          refine wpAnyG_pure 2 (v := ?_) (fun _ => trivial) (by simp only [List.getElem?_toArray, List.getElem?_cons_succ, List.getElem?_cons_zero]; rfl) (by kernel_rfl) (fun _ _ _ _ _ h => h) ⟨(by rfl), (by intro c h; cases h), ?_⟩ hHeld ?_
          rotate_left
          focus (intro wS hSw; (try replace hSw := HSF.out wS hSw); (try dsimp only at hSw); go_simp; (try with_reducible rfl))
          (try simp only [Act.put, List.setIfInBounds_toArray, List.set_cons_zero, List.set_cons_succ])
          refine wpAnyG_take 3 (v := ?_) (fun _ => trivial) (by simp only [List.getElem?_toArray, List.getElem?_cons_succ, List.getElem?_cons_zero]; rfl) (by kernel_rfl) (fun _ _ _ _ _ h => h) ⟨(by rfl), (by intro c h; cases h), ?_⟩ hHeld ?_
          rotate_left
          focus (intro wS hSw; (try replace hSw := HSF.out wS hSw); (try dsimp only at hSw); go_simp; (try with_reducible rfl))
          (try simp only [Act.put, List.setIfInBounds_toArray, List.set_cons_zero, List.set_cons_succ])
          refine wpAnyG_pure 4 (v := ?_) (fun _ => trivial) (by simp only [List.getElem?_toArray, List.getElem?_cons_succ, List.getElem?_cons_zero]; rfl) (by kernel_rfl) (fun _ _ _ _ _ h => h) ⟨(by rfl), (by intro c h; cases h), ?_⟩ hHeld ?_
          rotate_left
          focus (intro wS hSw; (try replace hSw := HSF.out wS hSw); (try dsimp only at hSw); go_simp; (try with_reducible rfl))
          (try simp only [Act.put, List.setIfInBounds_toArray, List.set_cons_zero, List.set_cons_succ])
          refine wpAnyG_pure 5 (v := ?_) (fun _ => trivial) (by simp only [List.getElem?_toArray, List.getElem?_cons_succ, List.getElem?_cons_zero]; rfl) (by kernel_rfl) (fun _ _ _ _ _ h => h) ⟨(by rfl), (by intro c h; cases h), ?_⟩ hHeld ?_
          rotate_left
          focus (intro wS hSw; (try replace hSw := HSF.out wS hSw); (try dsimp only at hSw); go_simp; (try with_reducible rfl))
          (try simp only [Act.put, List.setIfInBounds_toArray, List.set_cons_zero, List.set_cons_succ])
          refine wpAnyG_pure 6 (v := ?_) (fun _ => trivial) (by simp only [List.getElem?_toArray, List.getElem?_cons_succ, List.getElem?_cons_zero]; rfl) (by kernel_rfl) (fun _ _ _ _ _ h => h) ⟨(by rfl), (by intro c h; cases h), ?_⟩ hHeld ?_
          rotate_left
          focus (intro wS hSw; (try replace hSw := HSF.out wS hSw); (try dsimp only at hSw); go_simp; (try with_reducible rfl))
          (try simp only [Act.put, List.setIfInBounds_toArray, List.set_cons_zero, List.set_cons_succ])
          refine wpAnyG_pure 7 (v := ?_) (fun _ => trivial) (by simp only [List.getElem?_toArray, List.getElem?_cons_succ, List.getElem?_cons_zero]; rfl) (by kernel_rfl) (fun _ _ _ _ _ h => h) ⟨(by rfl), (by intro c h; cases h), ?_⟩ hHeld ?_
          rotate_left
          focus (intro wS hSw; (try replace hSw := HSF.out wS hSw); (try dsimp only at hSw); go_simp; (try with_reducible rfl))
          (try simp only [Act.put, List.setIfInBounds_toArray, List.set_cons_zero, List.set_cons_succ])
          refine wpAnyG_pure 8 (v := ?_) (fun _ => trivial) (by simp only [List.getElem?_toArray, List.getElem?_cons_succ, List.getElem?_cons_zero]; rfl) (by kernel_rfl) (fun _ _ _ _ _ h => h) ⟨(by rfl), (by intro c h; cases h), ?_⟩ hHeld ?_
          rotate_left
          focus (intro wS hSw; (try replace hSw := HSF.out wS hSw); (try dsimp only at hSw); go_simp; (try with_reducible rfl))
          (try simp only [Act.put, List.setIfInBounds_toArray, List.set_cons_zero, List.set_cons_succ])
          refine wpAnyG_take 9 (v := ?_) (fun _ => trivial) (by simp only [List.getElem?_toArray, List.getElem?_cons_succ, List.getElem?_cons_zero]; rfl) (by kernel_rfl) (fun _ _ _ _ _ h => h) ⟨(by rfl), (by intro c h; cases h), ?_⟩ hHeld ?_
          rotate_left
          focus (intro wS hSw; (try replace hSw := HSF.out wS hSw); (try dsimp only at hSw); go_simp; (try with_reducible rfl))
          (try simp only [Act.put, List.setIfInBounds_toArray, List.set_cons_zero, List.set_cons_succ])
          refine wpAnyG_pure 10 (v := ?_) (fun _ => trivial) (by simp only [List.getElem?_toArray, List.getElem?_cons_succ, List.getElem?_cons_zero]; rfl) (by kernel_rfl) (fun _ _ _ _ _ h => h) ⟨(by rfl), (by intro c h; cases h), ?_⟩ hHeld ?_
          rotate_left
          focus (intro wS hSw; (try replace hSw := HSF.out wS hSw); (try dsimp only at hSw); go_simp; (try with_reducible rfl))
          (try simp only [Act.put, List.setIfInBounds_toArray, List.set_cons_zero, List.set_cons_succ])
          refine wpAnyG_pure 11 (v := ?_) (fun _ => trivial) (by simp only [List.getElem?_toArray, List.getElem?_cons_succ, List.getElem?_cons_zero]; rfl) (by kernel_rfl) (fun _ _ _ _ _ h => h) ⟨(by rfl), (by intro c h; cases h), ?_⟩ hHeld ?_
          rotate_left
          focus (intro wS hSw; (try replace hSw := HSF.out wS hSw); (try dsimp only at hSw); go_simp; (try with_reducible rfl))
          (try simp only [Act.put, List.setIfInBounds_toArray, List.set_cons_zero, List.set_cons_succ])
          refine wpAnyG_pure 12 (v := ?_) (fun _ => trivial) (by simp only [List.getElem?_toArray, List.getElem?_cons_succ, List.getElem?_cons_zero]; rfl) (by kernel_rfl) (fun _ _ _ _ _ h => h) ⟨(by rfl), (by intro c h; cases h), ?_⟩ hHeld ?_
          rotate_left
          focus (intro wS hSw; (try replace hSw := HSF.out wS hSw); (try dsimp only at hSw); go_simp; (try with_reducible rfl))
          (try simp only [Act.put, List.setIfInBounds_toArray, List.set_cons_zero, List.set_cons_succ])
          refine wpAnyG_pure 13 (v := ?_) (fun _ => trivial) (by simp only [List.getElem?_toArray, List.getElem?_cons_succ, List.getElem?_cons_zero]; rfl) (by kernel_rfl) (fun _ _ _ _ _ h => h) ⟨(by rfl), (by intro c h; cases h), ?_⟩ hHeld ?_
          rotate_left
          focus (intro wS hSw; (try replace hSw := HSF.out wS hSw); (try dsimp only at hSw); go_simp; (try with_reducible rfl))
          (try simp only [Act.put, List.setIfInBounds_toArray, List.set_cons_zero, List.set_cons_succ])
          refine wpAnyG_skip 14 (fun _ => trivial) (by simp only [List.getElem?_toArray, List.getElem?_cons_succ, List.getElem?_cons_zero]; rfl) (by kernel_rfl) (fun _ _ _ _ _ h => h) (by rfl) hHeld ?_
          (try simp only [Act.put, List.setIfInBounds_toArray, List.set_cons_zero, List.set_cons_succ])
          refine wpAnyG_skip 15 (fun _ => trivial) (by simp only [List.getElem?_toArray, List.getElem?_cons_succ, List.getElem?_cons_zero]; rfl) (by kernel_rfl) (fun _ _ _ _ _ h => h) (by rfl) hHeld ?_
          (try simp only [Act.put, List.setIfInBounds_toArray, List.set_cons_zero, List.set_cons_succ])
          refine wpAnyG_skip 16 (fun _ => trivial) (by simp only [List.getElem?_toArray, List.getElem?_cons_succ, List.getElem?_cons_zero]; rfl) (by kernel_rfl) (fun _ _ _ _ _ h => h) (by rfl) hHeld ?_
          (try simp only [Act.put, List.setIfInBounds_toArray, List.set_cons_zero, List.set_cons_succ])
          refine wpAnyG_skip 17 (fun _ => trivial) (by simp only [List.getElem?_toArray, List.getElem?_cons_succ, List.getElem?_cons_zero]; rfl) (by kernel_rfl) (fun _ _ _ _ _ h => h) (by rfl) hHeld ?_
          (try simp only [Act.put, List.setIfInBounds_toArray, List.set_cons_zero, List.set_cons_succ])
          refine wpAnyG_skip 18 (fun _ => trivial) (by simp only [List.getElem?_toArray, List.getElem?_cons_succ, List.getElem?_cons_zero]; rfl) (by kernel_rfl) (fun _ _ _ _ _ h => h) (by rfl) hHeld ?_
          (try simp only [Act.put, List.setIfInBounds_toArray, List.set_cons_zero, List.set_cons_succ])
          refine wpAnyG_skip 19 (fun _ => trivial) (by simp only [List.getElem?_toArray, List.getElem?_cons_succ, List.getElem?_cons_zero]; rfl) (by kernel_rfl) (fun _ _ _ _ _ h => h) (by rfl) hHeld ?_
          (try simp only [Act.put, List.setIfInBounds_toArray, List.set_cons_zero, List.set_cons_succ])
          refine wpAnyG_skip 20 (fun _ => trivial) (by simp only [List.getElem?_toArray, List.getElem?_cons_succ, List.getElem?_cons_zero]; rfl) (by kernel_rfl) (fun _ _ _ _ _ h => h) (by rfl) hHeld ?_
          (try simp only [Act.put, List.setIfInBounds_toArray, List.set_cons_zero, List.set_cons_succ])
          refine wpAnyG_skip 21 (fun _ => trivial) (by simp only [List.getElem?_toArray, List.getElem?_cons_succ, List.getElem?_cons_zero]; rfl) (by kernel_rfl) (fun _ _ _ _ _ h => h) (by rfl) hHeld ?_
          (try simp only [Act.put, List.setIfInBounds_toArray, List.set_cons_zero, List.set_cons_succ])
          refine wpAnyG_skip 22 (fun _ => trivial) (by simp only [List.getElem?_toArray, List.getElem?_cons_succ, List.getElem?_cons_zero]; rfl) (by kernel_rfl) (fun _ _ _ _ _ h => h) (by rfl) hHeld ?_
          (try simp only [Act.put, List.setIfInBounds_toArray, List.set_cons_zero, List.set_cons_succ])
          refine wpAnyG_skip 23 (fun _ => trivial) (by simp only [List.getElem?_toArray, List.getElem?_cons_succ, List.getElem?_cons_zero]; rfl) (by kernel_rfl) (fun _ _ _ _ _ h => h) (by rfl) hHeld ?_
          (try simp only [Act.put, List.setIfInBounds_toArray, List.set_cons_zero, List.set_cons_succ])
          refine wpAnyG_skip 24 (fun _ => trivial) (by simp only [List.getElem?_toArray, List.getElem?_cons_succ, List.getElem?_cons_zero]; rfl) (by kernel_rfl) (fun _ _ _ _ _ h => h) (by rfl) hHeld ?_
          (try simp only [Act.put, List.setIfInBounds_toArray, List.set_cons_zero, List.set_cons_succ])
          refine wpAnyG_skip 25 (fun _ => trivial) (by simp only [List.getElem?_toArray, List.getElem?_cons_succ, List.getElem?_cons_zero]; rfl) (by kernel_rfl) (fun _ _ _ _ _ h => h) (by rfl) hHeld ?_
          (try simp only [Act.put, List.setIfInBounds_toArray, List.set_cons_zero, List.set_cons_succ])
          refine wpAnyG_skip 26 (fun _ => trivial) (by simp only [List.getElem?_toArray, List.getElem?_cons_succ, List.getElem?_cons_zero]; rfl) (by kernel_rfl) (fun _ _ _ _ _ h => h) (by rfl) hHeld ?_
          (try simp only [Act.put, List.setIfInBounds_toArray, List.set_cons_zero, List.set_cons_succ])
          refine wpAnyG_skip 27 (fun _ => trivial) (by simp only [List.getElem?_toArray, List.getElem?_cons_succ, List.getElem?_cons_zero]; rfl) (by kernel_rfl) (fun _ _ _ _ _ h => h) (by rfl) hHeld ?_
          (try simp only [Act.put, List.setIfInBounds_toArray, List.set_cons_zero, List.set_cons_succ])
          refine wpAnyG_skip 28 (fun _ => trivial) (by simp only [List.getElem?_toArray, List.getElem?_cons_succ, List.getElem?_cons_zero]; rfl) (by kernel_rfl) (fun _ _ _ _ _ h => h) (by rfl) hHeld ?_
          (try simp only [Act.put, List.setIfInBounds_toArray, List.set_cons_zero, List.set_cons_succ])
          refine wpAnyG_pure 29 (v := ?_) (fun _ => trivial) (by simp only [List.getElem?_toArray, List.getElem?_cons_succ, List.getElem?_cons_zero]; rfl) (by kernel_rfl) (fun _ _ _ _ _ h => h) ⟨(by rfl), (by intro c h; cases h), ?_⟩ hHeld ?_
          rotate_left
          focus (intro wS hSw; (try replace hSw := HSF.out wS hSw); (try dsimp only at hSw); go_simp; (try with_reducible rfl))
          (try simp only [Act.put, List.setIfInBounds_toArray, List.set_cons_zero, List.set_cons_succ])
          refine wpAnyS_done (by kernel_rfl) ?_
          clear hHeld HSF
          go_wp2_with fail
          go_ret
          exact ⟨ret_bool (by unfold setB; rw [HA.out, HST.out]; have h1 : ¬ x < n := (by omega); simp [h1]), BD.out⟩
      have hnd : decide (n ≤ x) = false := decide_eq_false hxn
      by_cases hz : 0 < k
      · have hkd : decide ((0 : Int) < (k : Int)) = true := decide_eq_true (by omega)
        have hke : decide (0 < k) = true := decide_eq_true (by omega)
        have hcp0 := hprev.out hz
        obtain ⟨j, hj⟩ : ∃ j, j = k - 1 := ⟨_, rfl⟩
        rw [← hj] at hcp0
        have hcp := hcp0
        have hwj : wrap64 ((k : Int) - 1) = (j : Int) := by rw [wrap64_in _ (by omega)]; omega
        have hwj2 : IntKind.i64.wrap ((k : Int) - 1) = (j : Int) := by rw [i64_in _ (by omega)]; omega
        have hjl : (j : Int) < l.length := by omega
        have hmx : max (j : Int) 0 = j := by omega
        have hmx2 : (if (j : Int) < 0 then (0 : Int) else (j : Int)) = j := if_neg (by omega)
        clear hprev hk0 hcp0 hj hz
        by_cases hle : x ≤ y
        · as_aux_lemma =>
            go_upto_region 4 with fail
            have BD := hid HB.out.drew
            refine wpIn_wide.1 (wpIn_region_S (n := 0) (fun wq => wq.cell? ⟨b, off + k, none⟩ = some (.int .i64 x) ∧ wq.cell? ⟨b, off + j, none⟩ = some (.int .i64 y)) [] (by kernel_rfl) (⟨hc0, hcp⟩) (fun hHeld => ?_))
            have HSF := hid (fun (wq : World) (hq : wq.cell? ⟨b, off + k, none⟩ = some (.int .i64 x) ∧ wq.cell? ⟨b, off + j, none⟩ = some (.int .i64 y)) => hq)
            clear HB
            generalize wr.drew = wd at *
            refine wpAnyG_pure 0 (v := ?_) (fun _ => trivial) (by simp only [List.getElem?_toArray, List.getElem?_cons_succ, List.getElem?_cons_zero]; rfl) (by kernel_rfl) (fun _ _ _ _ _ h => h) ⟨(by rfl), (by intro c h; cases h), ?_⟩ hHeld ?_
            rotate_left
            focus (intro wS hSw; (try replace hSw := HSF.out wS hSw); (try dsimp only at hSw); go_simp; (try with_reducible rfl))
            (try simp only [Act.put, List.setIfInBounds_toArray, List.set_cons_zero, List.set_cons_succ])
            refine wpAnyG_pure 1 (v := ?_) (fun _ => trivial) (by simp only [List.getElem?_toArray, List.getElem?_cons_succ, List.getElem?_cons_zero]; rfl) (by kernel_rfl) (fun _ _ _ _ _ h => h) ⟨(by rfl), (by intro c h; cases h), ?_⟩ hHeld ?_
            rotate_left
            focus (intro wS hSw; (try replace hSw := HSF.out wS hSw); (try dsimp only at hSw); go_simp; (try with_reducible rfl))
            (try simp only [Act.put, List.setIfInBounds_toArray, List.set_cons_zero, List.set_cons_succ])
            refine wpAnyG_pure 2 (v := ?_) (fun _ => trivial) (by simp only [List.getElem?_toArray, List.getElem?_cons_succ, List.getElem?_cons_zero]; rfl) (by kernel_rfl) (fun _ _ _ _ _ h => h) ⟨(by rfl), (by intro c h; cases h), ?_⟩ hHeld ?_
            rotate_left
            focus (intro wS hSw; (try replace hSw := HSF.out wS hSw); (try dsimp only at hSw); go_simp; (try with_reducible rfl))
            (try simp only [Act.put, List.setIfInBounds_toArray, List.set_cons_zero, List.set_cons_succ])
            refine wpAnyG_take 3 (v := ?_) (fun _ => trivial) (by simp only [List.getElem?_toArray, List.getElem?_cons_succ, List.getElem?_cons_zero]; rfl) (by kernel_rfl) (fun _ _ _ _ _ h => h) ⟨(by rfl), (by intro c h; cases h), ?_⟩ hHeld ?_
            rotate_left
            focus (intro wS hSw; (try replace hSw := HSF.out wS hSw); (try dsimp only at hSw); go_simp; (try with_reducible rfl))
            (try simp only [Act.put, List.setIfInBounds_toArray, List.set_cons_zero, List.set_cons_succ])
            refine wpAnyG_pure 4 (v := ?_) (fun _ => trivial) (by simp only [List.getElem?_toArray, List.getElem?_cons_succ, List.getElem?_cons_zero]; rfl) (by kernel_rfl) (fun _ _ _ _ _ h => h) ⟨(by rfl), (by intro c h; cases h), ?_⟩ hHeld ?_
            rotate_left
            focus (intro wS hSw; (try replace hSw := HSF.out wS hSw); (try dsimp only at hSw); go_simp; (try with_reducible rfl))
            (try simp only [Act.put, List.setIfInBounds_toArray, List.set_cons_zero, List.set_cons_succ])
            refine wpAnyG_pure 5 (v := ?_) (fun _ => trivial) (by simp only [List.getElem?_toArray, List.getElem?_cons_succ, List.getElem?_cons_zero]; rfl) (by kernel_rfl) (fun _ _ _ _ _ h => h) ⟨(by rfl), (by intro c h; cases h), ?_⟩ hHeld ?_
            rotate_left
            focus (intro wS hSw; (try replace hSw := HSF.out wS hSw); (try dsimp only at hSw); go_simp; (try with_reducible rfl))
            (try simp only [Act.put, List.setIfInBounds_toArray, List.set_cons_zero, List.set_cons_succ])
            refine wpAnyG_pure 6 (v := ?_) (fun _ => trivial) (by simp only [List.getElem?_toArray, List.getElem?_cons_succ, List.getElem?_cons_zero]; rfl) (by kernel_rfl) (fun _ _ _ _ _ h => h) ⟨(by rfl), (by intro c h; cases h), ?_⟩ hHeld ?_
            rotate_left
            focus (intro wS hSw; (try replace hSw := HSF.out wS hSw); (try dsimp only at hSw); go_simp; (try with_reducible rfl))
            (try simp only [Act.put, List.setIfInBounds_toArray, List.set_cons_zero, List.set_cons_succ])
            refine wpAnyG_pure 7 (v := ?_) (fun _ => trivial) (by simp only [List.getElem?_toArray, List.getElem?_cons_succ, List.getElem?_cons_zero]; rfl) (by kernel_rfl) (fun _ _ _ _ _ h => h) ⟨(by rfl), (by intro c h; cases h), ?_⟩ hHeld ?_
            rotate_left
            focus (intro wS hSw; (try replace hSw := HSF.out wS hSw); (try dsimp only at hSw); go_simp; (try with_reducible rfl))
            (try simp only [Act.put, List.setIfInBounds_toArray, List.set_cons_zero, List.set_cons_succ])
            refine wpAnyG_pure 8 (v := ?_) (fun _ => trivial) (by simp only [List.getElem?_toArray, List.getElem?_cons_succ, List.getElem?_cons_zero]; rfl) (by kernel_rfl) (fun _ _ _ _ _ h => h) ⟨(by rfl), (by intro c h; cases h), ?_⟩ hHeld ?_
            rotate_left
            focus (intro wS hSw; (try replace hSw := HSF.out wS hSw); (try dsimp only at hSw); go_simp; (try with_reducible rfl))
            (try simp only [Act.put, List.setIfInBounds_toArray, List.set_cons_zero, List.set_cons_succ])
            refine wpAnyG_take 9 (v := ?_) (fun _ => trivial) (by simp only [List.getElem?_toArray, List.getElem?_cons_succ, List.getElem?_cons_zero]; rfl) (by kernel_rfl) (fun _ _ _ _ _ h => h) ⟨(by rfl), (by intro c h; cases h), ?_⟩ hHeld ?_
            rotate_left
            focus (intro wS hSw; (try replace hSw := HSF.out wS hSw); (try dsimp only at hSw); go_simp; (try with_reducible rfl))
            (try simp only [Act.put, List.setIfInBounds_toArray, List.set_cons_zero, List.set_cons_succ])
            refine wpAnyG_pure 10 (v := ?_) (fun _ => trivial) (by simp only [List.getElem?_toArray, List.getElem?_cons_succ, List.getElem?_cons_zero]; rfl) (by kernel_rfl) (fun _ _ _ _ _ h => h) ⟨(by rfl), (by intro c h; cases h), ?_⟩ hHeld ?_
            rotate_left
            focus (intro wS hSw; (try replace hSw := HSF.out wS hSw); (try dsimp only at hSw); go_simp; (try with_reducible rfl))
            (try simp only [Act.put, List.setIfInBounds_toArray, List.set_cons_zero, List.set_cons_succ])
            refine wpAnyG_pure 11 (v := ?_) (fun _ => trivial) (by simp only [List.getElem?_toArray, List.getElem?_cons_succ, List.getElem?_cons_zero]; rfl) (by kernel_rfl) (fun _ _ _ _ _ h => h) ⟨(by rfl), (by intro c h; cases h), ?_⟩ hHeld ?_
            rotate_left
            focus (intro wS hSw; (try replace hSw := HSF.out wS hSw); (try dsimp only at hSw); go_simp; (try with_reducible rfl))
            (try simp only [Act.put, List.setIfInBounds_toArray, List.set_cons_zero, List.set_cons_succ])
            refine wpAnyG_pure 12 (v := ?_) (fun _ => trivial) (by simp only [List.getElem?_toArray, List.getElem?_cons_succ, List.getElem?_cons_zero]; rfl) (by kernel_rfl) (fun _ _ _ _ _ h => h) ⟨(by rfl), (by intro c h; cases h), ?_⟩ hHeld ?_
            rotate_left
            focus (intro wS hSw; (try replace hSw := HSF.out wS hSw); (try dsimp only at hSw); go_simp; (try with_reducible rfl))
            (try simp only [Act.put, List.setIfInBounds_toArray, List.set_cons_zero, List.set_cons_succ])
            refine wpAnyG_pure 13 (v := ?_) (fun _ => trivial) (by simp only [List.getElem?_toArray, List.getElem?_cons_succ, List.getElem?_cons_zero]; rfl) (by kernel_rfl) (fun _ _ _ _ _ h => h) ⟨(by rfl), (by intro c h; cases h), ?_⟩ hHeld ?_
            rotate_left
            focus (intro wS hSw; (try replace hSw := HSF.out wS hSw); (try dsimp only at hSw); go_simp; (try with_reducible rfl))
            (try simp only [Act.put, List.setIfInBounds_toArray, List.set_cons_zero, List.set_cons_succ])
            refine wpAnyG_pure 14 (v := ?_) (fun _ => trivial) (by simp only [List.getElem?_toArray, List.getElem?_cons_succ, List.getElem?_cons_zero]; rfl) (by kernel_rfl) (fun _ _ _ _ _ h => h) ⟨(by rfl), (by intro c h; cases h), ?_⟩ hHeld ?_
            rotate_left
            focus (intro wS hSw; (try replace hSw := HSF.out wS hSw); (try dsimp only at hSw); go_simp; (try with_reducible rfl))
            (try simp only [Act.put, List.setIfInBounds_toArray, List.set_cons_zero, List.set_cons_succ])
            refine wpAnyG_pure 15 (v := ?_) (fun _ => trivial) (by simp only [List.getElem?_toArray, List.getElem?_cons_succ, List.getElem?_cons_zero]; rfl) (by kernel_rfl) (fun _ _ _ _ _ h => h) ⟨(by rfl), (by intro c h; cases h), ?_⟩ hHeld ?_
            rotate_left
            focus (intro wS hSw; (try replace hSw := HSF.out wS hSw); (try dsimp only at hSw); go_simp; (try with_reducible rfl))
            (try simp only [Act.put, List.setIfInBounds_toArray, List.set_cons_zero, List.set_cons_succ])
            refine wpAnyG_pure 16 (v := ?_) (fun _ => trivial) (by simp only [List.getElem?_toArray, List.getElem?_cons_succ, List.getElem?_cons_zero]; rfl) (by kernel_rfl) (fun _ _ _ _ _ h => h) ⟨(by rfl), (by intro c h; cases h), ?_⟩ hHeld ?_
            rotate_left
            focus (intro wS hSw; (try replace hSw := HSF.out wS hSw); (try dsimp only at hSw); go_simp; (try with_reducible rfl))
            (try simp only [Act.put, List.setIfInBounds_toArray, List.set_cons_zero, List.set_cons_succ])
            refine wpAnyG_pure 17 (v := ?_) (fun _ => trivial) (by simp only [List.getElem?_toArray, List.getElem?_cons_succ, List.getElem?_cons_zero]; rfl) (by kernel_rfl) (fun _ _ _ _ _ h => h) ⟨(by rfl), (by intro c h; cases h), ?_⟩ hHeld ?_
            rotate_left
            focus (intro wS hSw; (try replace hSw := HSF.out wS hSw); (try dsimp only at hSw); go_simp; (try with_reducible rfl))
            (try simp only [Act.put, List.setIfInBounds_toArray, List.set_cons_zero, List.set_cons_succ])
            refine wpAnyG_pure 18 (v := ?_) (fun _ => trivial) (by simp only [List.getElem?_toArray, List.getElem?_cons_succ, List.getElem?_cons_zero]; rfl) (by kernel_rfl) (fun _ _ _ _ _ h => h) ⟨(by rfl), (by intro c h; cases h), ?_⟩ hHeld ?_
            rotate_left
            focus (intro wS hSw; (try replace hSw := HSF.out wS hSw); (try dsimp only at hSw); go_simp; (try with_reducible rfl))
            (try simp only [Act.put, List.setIfInBounds_toArray, List.set_cons_zero, List.set_cons_succ])
            refine wpAnyG_pure 19 (v := ?_) (fun _ => trivial) (by simp only [List.getElem?_toArray, List.getElem?_cons_succ, List.getElem?_cons_zero]; rfl) (by kernel_rfl) (fun _ _ _ _ _ h => h) ⟨(by rfl), (by intro c h; cases h), ?_⟩ hHeld ?_
            rotate_left
            focus (intro wS hSw; (try replace hSw := HSF.out wS hSw); (try dsimp only at hSw); go_simp; (try with_reducible rfl))
            (try simp only [Act.put, List.setIfInBounds_toArray, List.set_cons_zero, List.set_cons_succ])
            refine wpAnyG_pure 20 (v := ?_) (fun _ => trivial) (by simp only [List.getElem?_toArray, List.getElem?_cons_succ, List.getElem?_cons_zero]; rfl) (by kernel_rfl) (fun _ _ _ _ _ h => h) ⟨(by rfl), (by intro c h; cases h), ?_⟩ hHeld ?_
            rotate_left
            focus (intro wS hSw; (try replace hSw := HSF.out wS hSw); (try dsimp only at hSw); go_simp; (try with_reducible rfl))
            (try simp only [Act.put, List.setIfInBounds_toArray, List.set_cons_zero, List.set_cons_succ])
            refine wpAnyG_pure 21 (v := ?_) (fun _ => trivial) (by simp only [List.getElem?_toArray, List.getElem?_cons_succ, List.getElem?_cons_zero]; rfl) (by kernel_rfl) (fun _ _ _ _ _ h => h) ⟨(by rfl), (by intro c h; cases h), ?_⟩ hHeld ?_
            rotate_left
            focus (intro wS hSw; (try replace hSw := HSF.out wS hSw); (try dsimp only at hSw); go_simp; (try with_reducible rfl))
            (try simp only [Act.put, List.setIfInBounds_toArray, List.set_cons_zero, List.set_cons_succ])
            refine wpAnyG_take 22 (v := ?_) (fun _ => trivial) (by simp only [List.getElem?_toArray, List.getElem?_cons_succ, List.getElem?_cons_zero]; rfl) (by kernel_rfl) (fun _ _ _ _ _ h => h) ⟨(by rfl), (by intro c h; cases h), ?_⟩ hHeld ?_
            rotate_left
            focus (intro wS hSw; (try replace hSw := HSF.out wS hSw); (try dsimp only at hSw); go_simp; (try with_reducible rfl))
            (try simp only [Act.put, List.setIfInBounds_toArray, List.set_cons_zero, List.set_cons_succ])
            refine wpAnyG_pure 23 (v := ?_) (fun _ => trivial) (by simp only [List.getElem?_toArray, List.getElem?_cons_succ, List.getElem?_cons_zero]; rfl) (by kernel_rfl) (fun _ _ _ _ _ h => h) ⟨(by rfl), (by intro c h; cases h), ?_⟩ hHeld ?_
            rotate_left
            focus (intro wS hSw; (try replace hSw := HSF.out wS hSw); (try dsimp only at hSw); go_simp; (try with_reducible rfl))
            (try simp only [Act.put, List.setIfInBounds_toArray, List.set_cons_zero, List.set_cons_succ])
            refine wpAnyG_pure 24 (v := ?_) (fun _ => trivial) (by simp only [List.getElem?_toArray, List.getElem?_cons_succ, List.getElem?_cons_zero]; rfl) (by kernel_rfl) (fun _ _ _ _ _ h => h) ⟨(by rfl), (by intro c h; cases h), ?_⟩ hHeld ?_
            rotate_left
            focus (intro wS hSw; (try replace hSw := HSF.out wS hSw); (try dsimp only at hSw); go_simp; (try with_reducible rfl))
            (try simp only [Act.put, List.setIfInBounds_toArray, List.set_cons_zero, List.set_cons_succ])
            refine wpAnyG_pure 25 (v := ?_) (fun _ => trivial) (by simp only [List.getElem?_toArray, List.getElem?_cons_succ, List.getElem?_cons_zero]; rfl) (by kernel_rfl) (fun _ _ _ _ _ h => h) ⟨(by rfl), (by intro c h; cases h), ?_⟩ hHeld ?_
            rotate_left
            focus (intro wS hSw; (try replace hSw := HSF.out wS hSw); (try dsimp only at hSw); go_simp; (try with_reducible rfl))
            (try simp only [Act.put, List.setIfInBounds_toArray, List.set_cons_zero, List.set_cons_succ])
            refine wpAnyG_take 26 (v := ?_) (fun _ => trivial) (by simp only [List.getElem?_toArray, List.getElem?_cons_succ, List.getElem?_cons_zero]; rfl) (by kernel_rfl) (fun _ _ _ _ _ h => h) ⟨(by rfl), (by intro c h; cases h), ?_⟩ hHeld ?_
            rotate_left
            focus (intro wS hSw; (try replace hSw := HSF.out wS hSw); (try dsimp only at hSw); go_simp; (try with_reducible rfl))
            (try simp only [Act.put, List.setIfInBounds_toArray, List.set_cons_zero, List.set_cons_succ])
            refine wpAnyG_pure 27 (v := ?_) (fun _ => trivial) (by simp only [List.getElem?_toArray, List.getElem?_cons_succ, List.getElem?_cons_zero]; rfl) (by kernel_rfl) (fun _ _ _ _ _ h => h) ⟨(by rfl), (by intro c h; cases h), ?_⟩ hHeld ?_
            rotate_left
            focus (intro wS hSw; (try replace hSw := HSF.out wS hSw); (try dsimp only at hSw); go_simp; (try with_reducible rfl))
            (try simp only [Act.put, List.setIfInBounds_toArray, List.set_cons_zero, List.set_cons_succ])
            refine wpAnyG_pure 28 (v := ?_) (fun _ => trivial) (by simp only [List.getElem?_toArray, List.getElem?_cons_succ, List.getElem?_cons_zero]; rfl) (by kernel_rfl) (fun _ _ _ _ _ h => h) ⟨(by rfl), (by intro c h; cases h), ?_⟩ hHeld ?_
            rotate_left
            focus (intro wS hSw; (try replace hSw := HSF.out wS hSw); (try dsimp only at hSw); go_simp; (try with_reducible rfl))
            (try simp only [Act.put, List.setIfInBounds_toArray, List.set_cons_zero, List.set_cons_succ])
            refine wpAnyG_pure 29 (v := ?_) (fun _ => trivial) (by simp only [List.getElem?_toArray, List.getElem?_cons_succ, List.getElem?_cons_zero]; rfl) (by kernel_rfl) (fun _ _ _ _ _ h => h) ⟨(by rfl), (by intro c h; cases h), ?_⟩ hHeld ?_
            rotate_left
            focus (intro wS hSw; (try replace hSw := HSF.out wS hSw); (try dsimp only at hSw); go_simp; (try with_reducible rfl))
            (try simp only [Act.put, List.setIfInBounds_toArray, List.set_cons_zero, List.set_cons_succ])
            refine wpAnyS_done (by kernel_rfl) ?_
            clear hHeld HSF
            go_wp2_with fail
            go_ret
            exact ⟨ret_bool (by unfold setB; rw [HA.out, HST.out]; have h1 : ¬ y < x := (by omega); simp [h1]), BD.out⟩
        · as_aux_lemma =>
            go_upto_region 4 with fail
            have BD := hid HB.out.drew
            refine wpIn_wide.1 (wpIn_region_S (n := 0) (fun wq => wq.cell? ⟨b, off + k, none⟩ = some (.int .i64 x) ∧ wq.cell? ⟨b, off + j, none⟩ = some (.int .i64 y)) [] (by kernel_rfl) (⟨hc0, hcp⟩) (fun hHeld => ?_))
            have HSF := hid (fun (wq : World) (hq : wq.cell? ⟨b, off + k, none⟩ = some (.int .i64 x) ∧ wq.cell? ⟨b, off + j, none⟩ = some (.int .i64 y)) => hq)
            clear HB
            generalize wr.drew = wd at *
            refine wpAnyG_pure 0 (v := ?_) (fun _ => trivial) (by simp only [List.getElem?_toArray, List.getElem?_cons_succ, List.getElem?_cons_zero]; rfl) (by kernel_rfl) (fun _ _ _ _ _ h => h) ⟨(by rfl), (by intro c h; cases h), ?_⟩ hHeld ?_
            rotate_left
            focus (intro wS hSw; (try replace hSw := HSF.out wS hSw); (try dsimp only at hSw); go_simp; (try with_reducible rfl))
            (try simp only [Act.put, List.setIfInBounds_toArray, List.set_cons_zero, List.set_cons_succ])
            refine wpAnyG_pure 1 (v := ?_) (fun _ => trivial) (by simp only [List.getElem?_toArray, List.getElem?_cons_succ, List.getElem?_cons_zero]; rfl) (by kernel_rfl) (fun _ _ _ _ _ h => h) ⟨(by rfl), (by intro c h; cases h), ?_⟩ hHeld ?_
            rotate_left
            focus (intro wS hSw; (try replace hSw := HSF.out wS hSw); (try dsimp only at hSw); go_simp; (try with_reducible rfl))
            (try simp only [Act.put, List.setIfInBounds_toArray, List.set_cons_zero, List.set_cons_succ])
            refine wpAnyG_pure 2 (v := ?_) (fun _ => trivial) (by simp only [List.getElem?_toArray, List.getElem?_cons_succ, List.getElem?_cons_zero]; rfl) (by kernel_rfl) (fun _ _ _ _ _ h => h) ⟨(by rfl), (by intro c h; cases h), ?_⟩ hHeld ?_
            rotate_left
            focus (intro wS hSw; (try replace hSw := HSF.out wS hSw); (try dsimp only at hSw); go_simp; (try with_reducible rfl))
            (try simp only [Act.put, List.setIfInBounds_toArray, List.set_cons_zero, List.set_cons_succ])
            refine wpAnyG_take 3 (v := ?_) (fun _ => trivial) (by simp only [List.getElem?_toArray, List.getElem?_cons_succ, List.getElem?_cons_zero]; rfl) (by kernel_rfl) (fun _ _ _ _ _ h => h) ⟨(by rfl), (by intro c h; cases h), ?_⟩ hHeld ?_
            rotate_left
            focus (intro wS hSw; (try replace hSw := HSF.out wS hSw); (try dsimp only at hSw); go_simp; (try with_reducible rfl))
            (try simp only [Act.put, List.setIfInBounds_toArray, List.set_cons_zero, List.set_cons_succ])
            refine wpAnyG_pure 4 (v := ?_) (fun _ => trivial) (by simp only [List.getElem?_toArray, List.getElem?_cons_succ, List.getElem?_cons_zero]; rfl) (by kernel_rfl) (fun _ _ _ _ _ h => h) ⟨(by rfl), (by intro c h; cases h), ?_⟩ hHeld ?_
            rotate_left
            focus (intro wS hSw; (try replace hSw := HSF.out wS hSw); (try dsimp only at hSw); go_simp; (try with_reducible rfl))
            (try simp only [Act.put, List.setIfInBounds_toArray, List.set_cons_zero, List.set_cons_succ])
            refine wpAnyG_pure 5 (v := ?_) (fun _ => trivial) (by simp only [List.getElem?_toArray, List.getElem?_cons_succ, List.getElem?_cons_zero]; rfl) (by kernel_rfl) (fun _ _ _ _ _ h => h) ⟨(by rfl), (by intro c h; cases h), ?_⟩ hHeld ?_
            rotate_left
            focus (intro wS hSw; (try replace hSw := HSF.out wS hSw); (try dsimp only at hSw); go_simp; (try with_reducible rfl))
            (try simp only [Act.put, List.setIfInBounds_toArray, List.set_cons_zero, List.set_cons_succ])
            refine wpAnyG_pure 6 (v := ?_) (fun _ => trivial) (by simp only [List.getElem?_toArray, List.getElem?_cons_succ, List.getElem?_cons_zero]; rfl) (by kernel_rfl) (fun _ _ _ _ _ h => h) ⟨(by rfl), (by intro c h; cases h), ?_⟩ hHeld ?_
            rotate_left
            focus (intro wS hSw; (try replace hSw := HSF.out wS hSw); (try dsimp only at hSw); go_simp; (try with_reducible rfl))
            (try simp only [Act.put, List.setIfInBounds_toArray, List.set_cons_zero, List.set_cons_succ])
            refine wpAnyG_pure 7 (v := ?_) (fun _ => trivial) (by simp only [List.getElem?_toArray, List.getElem?_cons_succ, List.getElem?_cons_zero]; rfl) (by kernel_rfl) (fun _ _ _ _ _ h => h) ⟨(by rfl), (by intro c h; cases h), ?_⟩ hHeld ?_
            rotate_left
            focus (intro wS hSw; (try replace hSw := HSF.out wS hSw); (try dsimp only at hSw); go_simp; (try with_reducible rfl))
            (try simp only [Act.put, List.setIfInBounds_toArray, List.set_cons_zero, List.set_cons_succ])
            refine wpAnyG_pure 8 (v := ?_) (fun _ => trivial) (by simp only [List.getElem?_toArray, List.getElem?_cons_succ, List.getElem?_cons_zero]; rfl) (by kernel_rfl) (fun _ _ _ _ _ h => h) ⟨(by rfl), (by intro c h; cases h), ?_⟩ hHeld ?_
            rotate_left
            focus (intro wS hSw; (try replace hSw := HSF.out wS hSw); (try dsimp only at hSw); go_simp; (try with_reducible rfl))
            (try simp only [Act.put, List.setIfInBounds_toArray, List.set_cons_zero, List.set_cons_succ])
            refine wpAnyG_take 9 (v := ?_) (fun _ => trivial) (by simp only [List.getElem?_toArray, List.getElem?_cons_succ, List.getElem?_cons_zero]; rfl) (by kernel_rfl) (fun _ _ _ _ _ h => h) ⟨(by rfl), (by intro c h; cases h), ?_⟩ hHeld ?_
            rotate_left
            focus (intro wS hSw; (try replace hSw := HSF.out wS hSw); (try dsimp only at hSw); go_simp; (try with_reducible rfl))
            (try simp only [Act.put, List.setIfInBounds_toArray, List.set_cons_zero, List.set_cons_succ])
            refine wpAnyG_pure 10 (v := ?_) (fun _ => trivial) (by simp only [List.getElem?_toArray, List.getElem?_cons_succ, List.getElem?_cons_zero]; rfl) (by kernel_rfl) (fun _ _ _ _ _ h => h) ⟨(by rfl), (by intro c h; cases h), ?_⟩ hHeld ?_
            rotate_left
            focus (intro wS hSw; (try replace hSw := HSF.out wS hSw); (try dsimp only at hSw); go_simp; (try with_reducible rfl))
            (try simp only [Act.put, List.setIfInBounds_toArray, List.set_cons_zero, List.set_cons_succ])
            refine wpAnyG_pure 11 (v := ?_) (fun _ => trivial) (by simp only [List.getElem?_toArray, List.getElem?_cons_succ, List.getElem?_cons_zero]; rfl) (by kernel_rfl) (fun _ _ _ _ _ h => h) ⟨(by rfl), (by intro c h; cases h), ?_⟩ hHeld ?_
            rotate_left
            focus (intro wS hSw; (try replace hSw := HSF.out wS hSw); (try dsimp only at hSw); go_simp; (try with_reducible rfl))
            (try simp only [Act.put, List.setIfInBounds_toArray, List.set_cons_zero, List.set_cons_succ])
            refine wpAnyG_pure 12 (v := ?_) (fun _ => trivial) (by simp only [List.getElem?_toArray, List.getElem?_cons_succ, List.getElem?_cons_zero]; rfl) (by kernel_rfl) (fun _ _ _ _ _ h => h) ⟨(by rfl), (by intro c h; cases h), ?_⟩ hHeld ?_
            rotate_left
            focus (intro wS hSw; (try replace hSw := HSF.out wS hSw); (try dsimp only at hSw); go_simp; (try with_reducible rfl))
            (try simp only [Act.put, List.setIfInBounds_toArray, List.set_cons_zero, List.set_cons_succ])
            refine wpAnyG_pure 13 (v := ?_) (fun _ => trivial) (by simp only [List.getElem?_toArray, List.getElem?_cons_succ, List.getElem?_cons_zero]; rfl) (by kernel_rfl) (fun _ _ _ _ _ h => h) ⟨(by rfl), (by intro c h; cases h), ?_⟩ hHeld ?_
            rotate_left
            focus (intro wS hSw; (try replace hSw := HSF.out wS hSw); (try dsimp only at hSw); go_simp; (try with_reducible rfl))
            (try simp only [Act.put, List.setIfInBounds_toArray, List.set_cons_zero, List.set_cons_succ])
            refine wpAnyG_pure 14 (v := ?_) (fun _ => trivial) (by simp only [List.getElem?_toArray, List.getElem?_cons_succ, List.getElem?_cons_zero]; rfl) (by kernel_rfl) (fun _ _ _ _ _ h => h) ⟨(by rfl), (by intro c h; cases h), ?_⟩ hHeld ?_
            rotate_left
            focus (intro wS hSw; (try replace hSw := HSF.out wS hSw); (try dsimp only at hSw); go_simp; (try with_reducible rfl))
            (try simp only [Act.put, List.setIfInBounds_toArray, List.set_cons_zero, List.set_cons_succ])
            refine wpAnyG_pure 15 (v := ?_) (fun _ => trivial) (by simp only [List.getElem?_toArray, List.getElem?_cons_succ, List.getElem?_cons_zero]; rfl) (by kernel_rfl) (fun _ _ _ _ _ h => h) ⟨(by rfl), (by intro c h; cases h), ?_⟩ hHeld ?_
            rotate_left
            focus (intro wS hSw; (try replace hSw := HSF.out wS hSw); (try dsimp only at hSw); go_simp; (try with_reducible rfl))
            (try simp only [Act.put, List.setIfInBounds_toArray, List.set_cons_zero, List.set_cons_succ])
            refine wpAnyG_pure 16 (v := ?_) (fun _ => trivial) (by simp only [List.getElem?_toArray, List.getElem?_cons_succ, List.getElem?_cons_zero]; rfl) (by kernel_rfl) (fun _ _ _ _ _ h => h) ⟨(by rfl), (by intro c h; cases h), ?_⟩ hHeld ?_
            rotate_left
            focus (intro wS hSw; (try replace hSw := HSF.out wS hSw); (try dsimp only at hSw); go_simp; (try with_reducible rfl))
            (try simp only [Act.put, List.setIfInBounds_toArray, List.set_cons_zero, List.set_cons_succ])
            refine wpAnyG_pure 17 (v := ?_) (fun _ => trivial) (by simp only [List.getElem?_toArray, List.getElem?_cons_succ, List.getElem?_cons_zero]; rfl) (by kernel_rfl) (fun _ _ _ _ _ h => h) ⟨(by rfl), (by intro c h; cases h), ?_⟩ hHeld ?_
            rotate_left
            focus (intro wS hSw; (try replace hSw := HSF.out wS hSw); (try dsimp only at hSw); go_simp; (try with_reducible rfl))
            (try simp only [Act.put, List.setIfInBounds_toArray, List.set_cons_zero, List.set_cons_succ])
            refine wpAnyG_pure 18 (v := ?_) (fun _ => trivial) (by simp only [List.getElem?_toArray, List.getElem?_cons_succ, List.getElem?_cons_zero]; rfl) (by kernel_rfl) (fun _ _ _ _ _ h => h) ⟨(by rfl), (by intro c h; cases h), ?_⟩ hHeld ?_
            rotate_left
            focus (intro wS hSw; (try replace hSw := HSF.out wS hSw); (try dsimp only at hSw); go_simp; (try with_reducible rfl))
            (try simp only [Act.put, List.setIfInBounds_toArray, List.set_cons_zero, List.set_cons_succ])
            refine wpAnyG_pure 19 (v := ?_) (fun _ => trivial) (by simp only [List.getElem?_toArray, List.getElem?_cons_succ, List.getElem?_cons_zero]; rfl) (by kernel_rfl) (fun _ _ _ _ _ h => h) ⟨(by rfl), (by intro c h; cases h), ?_⟩ hHeld ?_
            rotate_left
            focus (intro wS hSw; (try replace hSw := HSF.out wS hSw); (try dsimp only at hSw); go_simp; (try with_reducible rfl))
            (try simp only [Act.put, List.setIfInBounds_toArray, List.set_cons_zero, List.set_cons_succ])
            refine wpAnyG_pure 20 (v := ?_) (fun _ => trivial) (by simp only [List.getElem?_toArray, List.getElem?_cons_succ, List.getElem?_cons_zero]; rfl) (by kernel_rfl) (fun _ _ _ _ _ h => h) ⟨(by rfl), (by intro c h; cases h), ?_⟩ hHeld ?_
            rotate_left
            focus (intro wS hSw; (try replace hSw := HSF.out wS hSw); (try dsimp only at hSw); go_simp; (try with_reducible rfl))
            (try simp only [Act.put, List.setIfInBounds_toArray, List.set_cons_zero, List.set_cons_succ])
            refine wpAnyG_pure 21 (v := ?_) (fun _ => trivial) (by simp only [List.getElem?_toArray, List.getElem?_cons_succ, List.getElem?_cons_zero]; rfl) (by kernel_rfl) (fun _ _ _ _ _ h => h) ⟨(by rfl), (by intro c h; cases h), ?_⟩ hHeld ?_
            rotate_left
            focus (intro wS hSw; (try replace hSw := HSF.out wS hSw); (try dsimp only at hSw); go_simp; (try with_reducible rfl))
            (try simp only [Act.put, List.setIfInBounds_toArray, List.set_cons_zero, List.set_cons_succ])
            refine wpAnyG_take 22 (v := ?_) (fun _ => trivial) (by simp only [List.getElem?_toArray, List.getElem?_cons_succ, List.getElem?_cons_zero]; rfl) (by kernel_rfl) (fun _ _ _ _ _ h => h) ⟨(by rfl), (by intro c h; cases h), ?_⟩ hHeld ?_
            rotate_left
            focus (intro wS hSw; (try replace hSw := HSF.out wS hSw); (try dsimp only at hSw); go_simp; (try with_reducible rfl))
            (try simp only [Act.put, List.setIfInBounds_toArray, List.set_cons_zero, List.set_cons_succ])
            refine wpAnyG_pure 23 (v := ?_) (fun _ => trivial) (by simp only [List.getElem?_toArray, List.getElem?_cons_succ, List.getElem?_cons_zero]; rfl) (by kernel_rfl) (fun _ _ _ _ _ h => h) ⟨(by rfl), (by intro c h; cases h), ?_⟩ hHeld ?_
            rotate_left
            focus (intro wS hSw; (try replace hSw := HSF.out wS hSw); (try dsimp only at hSw); go_simp; (try with_reducible rfl))
            (try simp only [Act.put, List.setIfInBounds_toArray, List.set_cons_zero, List.set_cons_succ])
            refine wpAnyG_pure 24 (v := ?_) (fun _ => trivial) (by simp only [List.getElem?_toArray, List.getElem?_cons_succ, List.getElem?_cons_zero]; rfl) (by kernel_rfl) (fun _ _ _ _ _ h => h) ⟨(by rfl), (by intro c h; cases h), ?_⟩ hHeld ?_
            rotate_left
            focus (intro wS hSw; (try replace hSw := HSF.out wS hSw); (try dsimp only at hSw); go_simp; (try with_reducible rfl))
            (try simp only [Act.put, List.setIfInBounds_toArray, List.set_cons_zero, List.set_cons_succ])
            refine wpAnyG_pure 25 (v := ?_) (fun _ => trivial) (by simp only [List.getElem?_toArray, List.getElem?_cons_succ, List.getElem?_cons_zero]; rfl) (by kernel_rfl) (fun _ _ _ _ _ h => h) ⟨(by rfl), (by intro c h; cases h), ?_⟩ hHeld ?_
            rotate_left
            focus (intro wS hSw; (try replace hSw := HSF.out wS hSw); (try dsimp only at hSw); go_simp; (try with_reducible rfl))
            (try simp only [Act.put, List.setIfInBounds_toArray, List.set_cons_zero, List.set_cons_succ])
            refine wpAnyG_take 26 (v := ?_) (fun _ => trivial) (by simp only [List.getElem?_toArray, List.getElem?_cons_succ, List.getElem?_cons_zero]; rfl) (by kernel_rfl) (fun _ _ _ _ _ h => h) ⟨(by rfl), (by intro c h; cases h), ?_⟩ hHeld ?_
            rotate_left
            focus (intro wS hSw; (try replace hSw := HSF.out wS hSw); (try dsimp only at hSw); go_simp; (try with_reducible rfl))
            (try simp only [Act.put, List.setIfInBounds_toArray, List.set_cons_zero, List.set_cons_succ])
            refine wpAnyG_pure 27 (v := ?_) (fun _ => trivial) (by simp only [List.getElem?_toArray, List.getElem?_cons_succ, List.getElem?_cons_zero]; rfl) (by kernel_rfl) (fun _ _ _ _ _ h => h) ⟨(by rfl), (by intro c h; cases h), ?_⟩ hHeld ?_
            rotate_left
            focus (intro wS hSw; (try replace hSw := HSF.out wS hSw); (try dsimp only at hSw); go_simp; (try with_reducible rfl))
            (try simp only [Act.put, List.setIfInBounds_toArray, List.set_cons_zero, List.set_cons_succ])
            refine wpAnyG_pure 28 (v := ?_) (fun _ => trivial) (by simp only [List.getElem?_toArray, List.getElem?_cons_succ, List.getElem?_cons_zero]; rfl) (by kernel_rfl) (fun _ _ _ _ _ h => h) ⟨(by rfl), (by intro c h; cases h), ?_⟩ hHeld ?_
            rotate_left
            focus (intro wS hSw; (try replace hSw := HSF.out wS hSw); (try dsimp only at hSw); go_simp; (try with_reducible rfl))
            (try simp only [Act.put, List.setIfInBounds_toArray, List.set_cons_zero, List.set_cons_succ])
            refine wpAnyG_pure 29 (v := ?_) (fun _ => trivial) (by simp only [List.getElem?_toArray, List.getElem?_cons_succ, List.getElem?_cons_zero]; rfl) (by kernel_rfl) (fun _ _ _ _ _ h => h) ⟨(by rfl), (by intro c h; cases h), ?_⟩ hHeld ?_
            rotate_left
            focus (intro wS hSw; (try replace hSw := HSF.out wS hSw); (try dsimp only at hSw); go_simp; (try with_reducible rfl))
            (try simp only [Act.put, List.setIfInBounds_toArray, List.set_cons_zero, List.set_cons_succ])
            refine wpAnyS_done (by kernel_rfl) ?_
            clear hHeld HSF
            go_wp2_with fail
            go_roundw
            case rel => exact ⟨k + 1, by omega, by go_num, BD.out, by rw [HA.out, HST.out, HL.out]; have h1 : (y < x) := (by omega); have h2 : x < n := (by omega); simp [h1, h2], by rw [HL.out]; omega⟩
            case measure => simp [intOf]; omega
      · have hk9 : k = 0 := by omega
        have hy := hk0.out hk9
        have hkd : decide ((0 : Int) < (k : Int)) = false := decide_eq_false (by omega)
        have hke : decide (0 < k) = false := decide_eq_false (by omega)
        clear hprev hk0 hk9 hz
        as_aux_lemma =>
          go_upto_region 4 with fail
          have BD := hid HB.out.drew
          refine wpIn_wide.1 (wpIn_region_S (n := 0) (fun wq => wq.cell? ⟨b, off + k, none⟩ = some (.int .i64 x)) [] (by kernel_rfl) (hc0) (fun hHeld => ?_))
          have HSF := hid (fun (wq : World) (hq : wq.cell? ⟨b, off + k, none⟩ = some (.int .i64 x)) => hq)
          clear HB
          generalize wr.drew = wd at *
          refine wpAnyG_pure 0 (v := ?_) (fun _ => trivial) (by simp only [List.getElem?_toArray, List.getElem?_cons_succ, List.getElem?_cons_zero]; rfl) (by kernel_rfl) (fun _ _ _ _ _ h => h) ⟨(by rfl), (by intro c h; cases h), ?_⟩ hHeld ?_
          rotate_left
          focus (intro wS hSw; (try replace hSw := HSF.out wS hSw); (try dsimp only at hSw); go_simp; (try with_reducible rfl))
          (try simp only [Act.put, List.setIfInBounds_toArray, List.set_cons_zero, List.set_cons_succ])
          refine wpAnyG_pure 1 (v := ?_) (fun _ => trivial) (by simp only [List.getElem?_toArray, List.getElem?_cons_succ, List.getElem?_cons_zero]; rfl) (by kernel_rfl) (fun _ _ _ _ _ h => h) ⟨(by rfl), (by intro c h; cases h), ?_⟩ hHeld ?_
          rotate_left
          focus (intro wS hSw; (try replace hSw := HSF.out wS hSw); (try dsimp only at hSw); go_simp; (try with_reducible rfl))
          (try simp only [Act.put, List.setIfInBounds_toArray, List.set_cons_zero, List.set_cons_succ])
          refine wpAnyG_pure 2 (v := ?_) (fun _ => trivial) (by simp only [List.getElem?_toArray, List.getElem?_cons_succ, List.getElem?_cons_zero]; rfl) (by kernel_rfl) (fun _ _ _ _ _ h => h) ⟨(by rfl), (by intro c h; cases h), ?_⟩ hHeld ?_
          rotate_left
          focus (intro wS hSw; (try replace hSw := HSF.out wS hSw); (try dsimp only at hSw); go_simp; (try with_reducible rfl))
          (try simp only [Act.put, List.setIfInBounds_toArray, List.set_cons_zero, List.set_cons_succ])
          refine wpAnyG_take 3 (v := ?_) (fun _ => trivial) (by simp only [List.getElem?_toArray, List.getElem?_cons_succ, List.getElem?_cons_zero]; rfl) (by kernel_rfl) (fun _ _ _ _ _ h => h) ⟨(by rfl), (by intro c h; cases h), ?_⟩ hHeld ?_
          rotate_left
          focus (intro wS hSw; (try replace hSw := HSF.out wS hSw); (try dsimp only at hSw); go_simp; (try with_reducible rfl))
          (try simp only [Act.put, List.setIfInBounds_toArray, List.set_cons_zero, List.set_cons_succ])
          refine wpAnyG_pure 4 (v := ?_) (fun _ => trivial) (by simp only [List.getElem?_toArray, List.getElem?_cons_succ, List.getElem?_cons_zero]; rfl) (by kernel_rfl) (fun _ _ _ _ _ h => h) ⟨(by rfl), (by intro c h; cases h), ?_⟩ hHeld ?_
          rotate_left
          focus (intro wS hSw; (try replace hSw := HSF.out wS hSw); (try dsimp only at hSw); go_simp; (try with_reducible rfl))
          (try simp only [Act.put, List.setIfInBounds_toArray, List.set_cons_zero, List.set_cons_succ])
          refine wpAnyG_pure 5 (v := ?_) (fun _ => trivial) (by simp only [List.getElem?_toArray, List.getElem?_cons_succ, List.getElem?_cons_zero]; rfl) (by kernel_rfl) (fun _ _ _ _ _ h => h) ⟨(by rfl), (by intro c h; cases h), ?_⟩ hHeld ?_
          rotate_left
          focus (intro wS hSw; (try replace hSw := HSF.out wS hSw); (try dsimp only at hSw); go_simp; (try with_reducible rfl))
          (try simp only [Act.put, List.setIfInBounds_toArray, List.set_cons_zero, List.set_cons_succ])
          refine wpAnyG_pure 6 (v := ?_) (fun _ => trivial) (by simp only [List.getElem?_toArray, List.getElem?_cons_succ, List.getElem?_cons_zero]; rfl) (by kernel_rfl) (fun _ _ _ _ _ h => h) ⟨(by rfl), (by intro c h; cases h), ?_⟩ hHeld ?_
          rotate_left
          focus (intro wS hSw; (try replace hSw := HSF.out wS hSw); (try dsimp only at hSw); go_simp; (try with_reducible rfl))
          (try simp only [Act.put, List.setIfInBounds_toArray, List.set_cons_zero, List.set_cons_succ])
          refine wpAnyG_pure 7 (v := ?_) (fun _ => trivial) (by simp only [List.getElem?_toArray, List.getElem?_cons_succ, List.getElem?_cons_zero]; rfl) (by kernel_rfl) (fun _ _ _ _ _ h => h) ⟨(by rfl), (by intro c h; cases h), ?_⟩ hHeld ?_
          rotate_left
          focus (intro wS hSw; (try replace hSw := HSF.out wS hSw); (try dsimp only at hSw); go_simp; (try with_reducible rfl))
          (try simp only [Act.put, List.setIfInBounds_toArray, List.set_cons_zero, List.set_cons_succ])
          refine wpAnyG_pure 8 (v := ?_) (fun _ => trivial) (by simp only [List.getElem?_toArray, List.getElem?_cons_succ, List.getElem?_cons_zero]; rfl) (by kernel_rfl) (fun _ _ _ _ _ h => h) ⟨(by rfl), (by intro c h; cases h), ?_⟩ hHeld ?_
          rotate_left
          focus (intro wS hSw; (try replace hSw := HSF.out wS hSw); (try dsimp only at hSw); go_simp; (try with_reducible rfl))
          (try simp only [Act.put, List.setIfInBounds_toArray, List.set_cons_zero, List.set_cons_succ])
          refine wpAnyG_take 9 (v := ?_) (fun _ => trivial) (by simp only [List.getElem?_toArray, List.getElem?_cons_succ, List.getElem?_cons_zero]; rfl) (by kernel_rfl) (fun _ _ _ _ _ h => h) ⟨(by rfl), (by intro c h; cases h), ?_⟩ hHeld ?_
          rotate_left
          focus (intro wS hSw; (try replace hSw := HSF.out wS hSw); (try dsimp only at hSw); go_simp; (try with_reducible rfl))
          (try simp only [Act.put, List.setIfInBounds_toArray, List.set_cons_zero, List.set_cons_succ])
          refine wpAnyG_pure 10 (v := ?_) (fun _ => trivial) (by simp only [List.getElem?_toArray, List.getElem?_cons_succ, List.getElem?_cons_zero]; rfl) (by kernel_rfl) (fun _ _ _ _ _ h => h) ⟨(by rfl), (by intro c h; cases h), ?_⟩ hHeld ?_
          rotate_left
          focus (intro wS hSw; (try replace hSw := HSF.out wS hSw); (try dsimp only at hSw); go_simp; (try with_reducible rfl))
          (try simp only [Act.put, List.setIfInBounds_toArray, List.set_cons_zero, List.set_cons_succ])
          refine wpAnyG_pure 11 (v := ?_) (fun _ => trivial) (by simp only [List.getElem?_toArray, List.getElem?_cons_succ, List.getElem?_cons_zero]; rfl) (by kernel_rfl) (fun _ _ _ _ _ h => h) ⟨(by rfl), (by intro c h; cases h), ?_⟩ hHeld ?_
          rotate_left
          focus (intro wS hSw; (try replace hSw := HSF.out wS hSw); (try dsimp only at hSw); go_simp; (try with_reducible rfl))
          (try simp only [Act.put, List.setIfInBounds_toArray, List.set_cons_zero, List.set_cons_succ])
          refine wpAnyG_pure 12 (v := ?_) (fun _ => trivial) (by simp only [List.getElem?_toArray, List.getElem?_cons_succ, List.getElem?_cons_zero]; rfl) (by kernel_rfl) (fun _ _ _ _ _ h => h) ⟨(by rfl), (by intro c h; cases h), ?_⟩ hHeld ?_
          rotate_left
          focus (intro wS hSw; (try replace hSw := HSF.out wS hSw); (try dsimp only at hSw); go_simp; (try with_reducible rfl))
          (try simp only [Act.put, List.setIfInBounds_toArray, List.set_cons_zero, List.set_cons_succ])
          refine wpAnyG_pure 13 (v := ?_) (fun _ => trivial) (by simp only [List.getElem?_toArray, List.getElem?_cons_succ, List.getElem?_cons_zero]; rfl) (by kernel_rfl) (fun _ _ _ _ _ h => h) ⟨(by rfl), (by intro c h; cases h), ?_⟩ hHeld ?_
          rotate_left
          focus (intro wS hSw; (try replace hSw := HSF.out wS hSw); (try dsimp only at hSw); go_simp; (try with_reducible rfl))
          (try simp only [Act.put, List.setIfInBounds_toArray, List.set_cons_zero, List.set_cons_succ])
          refine wpAnyG_pure 14 (v := ?_) (fun _ => trivial) (by simp only [List.getElem?_toArray, List.getElem?_cons_succ, List.getElem?_cons_zero]; rfl) (by kernel_rfl) (fun _ _ _ _ _ h => h) ⟨(by rfl), (by intro c h; cases h), ?_⟩ hHeld ?_
          rotate_left
          focus (intro wS hSw; (try replace hSw := HSF.out wS hSw); (try dsimp only at hSw); go_simp; (try with_reducible rfl))
          (try simp only [Act.put, List.setIfInBounds_toArray, List.set_cons_zero, List.set_cons_succ])
          refine wpAnyG_pure 15 (v := ?_) (fun _ => trivial) (by simp only [List.getElem?_toArray, List.getElem?_cons_succ, List.getElem?_cons_zero]; rfl) (by kernel_rfl) (fun _ _ _ _ _ h => h) ⟨(by rfl), (by intro c h; cases h), ?_⟩ hHeld ?_
          rotate_left
          focus (intro wS hSw; (try replace hSw := HSF.out wS hSw); (try dsimp only at hSw); go_simp; (try with_reducible rfl))
          (try simp only [Act.put, List.setIfInBounds_toArray, List.set_cons_zero, List.set_cons_succ])
          refine wpAnyG_pure 16 (v := ?_) (fun _ => trivial) (by simp only [List.getElem?_toArray, List.getElem?_cons_succ, List.getElem?_cons_zero]; rfl) (by kernel_rfl) (fun _ _ _ _ _ h => h) ⟨(by rfl), (by intro c h; cases h), ?_⟩ hHeld ?_
          rotate_left
          focus (intro wS hSw; (try replace hSw := HSF.out wS hSw); (try dsimp only at hSw); go_simp; (try with_reducible rfl))
          (try simp only [Act.put, List.setIfInBounds_toArray, List.set_cons_zero, List.set_cons_succ])
          refine wpAnyG_skip 17 (fun _ => trivial) (by simp only [List.getElem?_toArray, List.getElem?_cons_succ, List.getElem?_cons_zero]; rfl) (by kernel_rfl) (fun _ _ _ _ _ h => h) (by rfl) hHeld ?_
          (try simp only [Act.put, List.setIfInBounds_toArray, List.set_cons_zero, List.set_cons_succ])
          refine wpAnyG_skip 18 (fun _ => trivial) (by simp only [List.getElem?_toArray, List.getElem?_cons_succ, List.getElem?_cons_zero]; rfl) (by kernel_rfl) (fun _ _ _ _ _ h => h) (by rfl) hHeld ?_
          (try simp only [Act.put, List.setIfInBounds_toArray, List.set_cons_zero, List.set_cons_succ])
          refine wpAnyG_skip 19 (fun _ => trivial) (by simp only [List.getElem?_toArray, List.getElem?_cons_succ, List.getElem?_cons_zero]; rfl) (by kernel_rfl) (fun _ _ _ _ _ h => h) (by rfl) hHeld ?_
          (try simp only [Act.put, List.setIfInBounds_toArray, List.set_cons_zero, List.set_cons_succ])
          refine wpAnyG_skip 20 (fun _ => trivial) (by simp only [List.getElem?_toArray, List.getElem?_cons_succ, List.getElem?_cons_zero]; rfl) (by kernel_rfl) (fun _ _ _ _ _ h => h) (by rfl) hHeld ?_
          (try simp only [Act.put, List.setIfInBounds_toArray, List.set_cons_zero, List.set_cons_succ])
          refine wpAnyG_skip 21 (fun _ => trivial) (by simp only [List.getElem?_toArray, List.getElem?_cons_succ, List.getElem?_cons_zero]; rfl) (by kernel_rfl) (fun _ _ _ _ _ h => h) (by rfl) hHeld ?_
          (try simp only [Act.put, List.setIfInBounds_toArray, List.set_cons_zero, List.set_cons_succ])
          refine wpAnyG_skip 22 (fun _ => trivial) (by simp only [List.getElem?_toArray, List.getElem?_cons_succ, List.getElem?_cons_zero]; rfl) (by kernel_rfl) (fun _ _ _ _ _ h => h) (by rfl) hHeld ?_
          (try simp only [Act.put, List.setIfInBounds_toArray, List.set_cons_zero, List.set_cons_succ])
          refine wpAnyG_skip 23 (fun _ => trivial) (by simp only [List.getElem?_toArray, List.getElem?_cons_succ, List.getElem?_cons_zero]; rfl) (by kernel_rfl) (fun _ _ _ _ _ h => h) (by rfl) hHeld ?_
          (try simp only [Act.put, List.setIfInBounds_toArray, List.set_cons_zero, List.set_cons_succ])
          refine wpAnyG_skip 24 (fun _ => trivial) (by simp only [List.getElem?_toArray, List.getElem?_cons_succ, List.getElem?_cons_zero]; rfl) (by kernel_rfl) (fun _ _ _ _ _ h => h) (by rfl) hHeld ?_
          (try simp only [Act.put, List.setIfInBounds_toArray, List.set_cons_zero, List.set_cons_succ])
          refine wpAnyG_skip 25 (fun _ => trivial) (by simp only [List.getElem?_toArray, List.getElem?_cons_succ, List.getElem?_cons_zero]; rfl) (by kernel_rfl) (fun _ _ _ _ _ h => h) (by rfl) hHeld ?_
          (try simp only [Act.put, List.setIfInBounds_toArray, List.set_cons_zero, List.set_cons_succ])
          refine wpAnyG_skip 26 (fun _ => trivial) (by simp only [List.getElem?_toArray, List.getElem?_cons_succ, List.getElem?_cons_zero]; rfl) (by kernel_rfl) (fun _ _ _ _ _ h => h) (by rfl) hHeld ?_
          (try simp only [Act.put, List.setIfInBounds_toArray, List.set_cons_zero, List.set_cons_succ])
          refine wpAnyG_skip 27 (fun _ => trivial) (by simp only [List.getElem?_toArray, List.getElem?_cons_succ, List.getElem?_cons_zero]; rfl) (by kernel_rfl) (fun _ _ _ _ _ h => h) (by rfl) hHeld ?_
          (try simp only [Act.put, List.setIfInBounds_toArray, List.set_cons_zero, List.set_cons_succ])
          refine wpAnyG_pure 28 (v := ?_) (fun _ => trivial) (by simp only [List.getElem?_toArray, List.getElem?_cons_succ, List.getElem?_cons_zero]; rfl) (by kernel_rfl) (fun _ _ _ _ _ h => h) ⟨(by rfl), (by intro c h; cases h), ?_⟩ hHeld ?_
          rotate_left
          focus (intro wS hSw; (try replace hSw := HSF.out wS hSw); (try dsimp only at hSw); go_simp; (try with_reducible rfl))
          (try simp only [Act.put, List.setIfInBounds_toArray, List.set_cons_zero, List.set_cons_succ])
          refine wpAnyG_pure 29 (v := ?_) (fun _ => trivial) (by simp only [List.getElem?_toArray, List.getElem?_cons_succ, List.getElem?_cons_zero]; rfl) (by kernel_rfl) (fun _ _ _ _ _ h => h) ⟨(by rfl), (by intro c h; cases h), ?_⟩ hHeld ?_
          rotate_left
          focus (intro wS hSw; (try replace hSw := HSF.out wS hSw); (try dsimp only at hSw); go_simp; (try with_reducible rfl))
          (try simp only [Act.put, List.setIfInBounds_toArray, List.set_cons_zero, List.set_cons_succ])
          refine wpAnyS_done (by kernel_rfl) ?_
          clear hHeld HSF
          go_wp2_with fail
          go_roundw
          case rel => exact ⟨k + 1, by omega, by go_num, BD.out, by rw [HA.out, HST.out, HL.out]; have h1 : (y < x) := (by omega); have h2 : x < n := (by omega); simp [h1, h2], by rw [HL.out]; omega⟩
          case measure => simp [intOf]; omega
    · obtain rfl : k = l.length := by omega
      go_wp2_with fail
      go_ret
      exact ⟨ret_bool (by unfold setB; rw [HA.out]; simp [asc]), HB.out⟩
end Go.Proofs.YteljfpcmpdpehaaGreatDoor
namespace Go.Proofs.YteljfpcmpdpehaaGreatDoor
open Go.RowKit Go.IntWalk Go.Shelf

set_option maxRecDepth 100000 in
set_option maxHeartbeats 1000000 in
theorem mark_r (n : Int) (A : Option Addr) (c : Nat) (T : List Tr) (B : Option Addr) (d : Nat) (m : List Int) (w : World) (hm : m.length ≤ maxLen) (h : SlR w w.heap.size B m) :
    Calls Tryz.prog 20 #[.agg #[.int .i64 n, .slice A T.length c], .slice B m.length d] w fun e w' => e = .returned (.bool (markOK (n, T) m)) ∧ Below w.heap.size w w' := by
  obtain ⟨w1, hw1⟩ : ∃ w1, w1 = (w.alloc (Obj.cells #[.int .i64 n, .slice A T.length c] 24)) := ⟨_, rfl⟩
  have B1 : Below w.heap.size w w1 := by rw [hw1]; (repeat (first | exact Below.refl _ _ | assumption | refine below_drewN ?_ _ | refine Below.drew ?_ | refine Below.alloc ?_ (by (try simp); (try omega)) _ | refine Below.setCell ?_ (by (try simp); (try omega)) _))
  have x1 : Blk w1 w.heap.size 24 #[.int .i64 n, .slice A T.length c] := by rw [hw1]; exact Blk.new w _ _
  have HX := hid (fun (W : World) (hW : Below w1.heap.size w1 W) => And.intro (show W.cell? ⟨w.heap.size, 0, none⟩ = some (.int .i64 n) from (bcell hW _ _ x1.lt).trans (by rw [x1.cell]; rfl)) (And.intro (show W.cell? ⟨w.heap.size, 1, none⟩ = some (.slice A T.length c) from (bcell hW _ _ x1.lt).trans (by rw [x1.cell]; rfl)) (show w.heap.size < W.heap.size from Nat.lt_of_lt_of_le x1.lt hW.size)))
  have HB1 := hid B1
  have hN := hid (markOK_eq (n, T) m)
  have h1 := (h.below B1).more B1.size
  clear x1 B1 h
  unfold maxLen at hm
  go_enter Tryz.func20, Tryz.ntmps20
  go_upto_region 1 with fail
  rw [← hw1]
  clear hw1
  go_upto_region 2 with fail
  go_loopw [5] (fun i wr => ∃ k : Nat, k ≤ m.length ∧ i = .int .i64 k ∧ w1 = wr ∧ (m.take k).any badM = false) (fun i _ => m.length - (intOf i).toNat)
  case atStart => exact ⟨0, by omega, rfl, rfl, by simp⟩
  case round =>
    obtain ⟨k, hk, rfl, rfl, ht⟩ := hrel
    have HT := hid ht
    clear ht
    obtain ⟨y0, y1, z1⟩ := HX.out w1 (Below.refl _ _)
    by_cases hlt : k < m.length
    · have hlt' : (k : Int) < m.length := by omega
      obtain ⟨b, off, rfl, hb, g0, _⟩ := h1.int hlt
      have hno := hid (show badM m[k] = true → markOK (n, T) m = false from fun hf => by
        rw [hN.out]
        have : m.any badM = true := List.any_eq_true.2 ⟨_, List.getElem_mem hlt, hf⟩
        rw [this]; simp)
      have hst := hid (show (m.take (k + 1)).any badM = badM m[k] by rw [List.take_add_one, List.getElem?_eq_getElem hlt, List.any_append, HT.out]; simp)
      generalize m[k] = x at *
      by_cases hx0 : x < 0
      · go_wp2_with fail
        go_ret
        exact ⟨ret_bool (by rw [hno.out (by simp [badM, hx0])]), HB1.out⟩
      · by_cases hx1 : 1099511627776 < x
        · go_wp2_with fail
          go_ret
          exact ⟨ret_bool (by rw [hno.out (by simp [badM, hx1])]), HB1.out⟩
        · go_wp2_with fail
          go_roundw
          case rel => exact ⟨k + 1, by omega, by go_num, by first | trivial | rfl, by rw [hst.out]; simp [badM]; omega⟩
          case measure => simp [intOf]; omega
    · obtain rfl : k = m.length := by omega
      rw [List.take_length] at HT
      have hr := hid (show markOK (n, T) m = decide ((m.length : Int) = n) by rw [hN.out, HT.out]; simp)
      go_wp2_with fail
      go_ret
      exact ⟨ret_bool (by rw [hr.out]; by_cases hq : (m.length : Int) = n <;> simp [hq]), HB1.out⟩
set_option maxRecDepth 100000 in
set_option maxHeartbeats 2000000 in
theorem right_r (n : Int) (A : Option Addr) (c : Nat) (T : List Tr) (w : World) (hl : T.length ≤ maxLen) (h : SlR w w.heap.size A T) :
    Calls Tryz.prog 9 #[.agg #[.int .i64 n, .slice A T.length c]] w fun e w' => e = .returned (.bool (netOK (n, T))) ∧ Below w.heap.size w w' := by
  obtain ⟨w1, hw1⟩ : ∃ w1, w1 = (w.alloc (Obj.cells #[.int .i64 n, .slice A T.length c] 24)) := ⟨_, rfl⟩
  have B1 : Below w.heap.size w w1 := by rw [hw1]; (repeat (first | exact Below.refl _ _ | assumption | refine below_drewN ?_ _ | refine Below.drew ?_ | refine Below.alloc ?_ (by (try simp); (try omega)) _ | refine Below.setCell ?_ (by (try simp); (try omega)) _))
  have x1 : Blk w1 w.heap.size 24 #[.int .i64 n, .slice A T.length c] := by rw [hw1]; exact Blk.new w _ _
  have HX := hid (fun (W : World) (hW : Below w1.heap.size w1 W) => And.intro (show W.cell? ⟨w.heap.size, 0, none⟩ = some (.int .i64 n) from (bcell hW _ _ x1.lt).trans (by rw [x1.cell]; rfl)) (And.intro (show W.cell? ⟨w.heap.size, 1, none⟩ = some (.slice A T.length c) from (bcell hW _ _ x1.lt).trans (by rw [x1.cell]; rfl)) (show w.heap.size < W.heap.size from Nat.lt_of_lt_of_le x1.lt hW.size)))
  have HB1 := hid B1
  have HN := hid (netOK_eq n T)
  have HTT := hid (fun (W : World) (hW : Below w1.heap.size w1 W) => show SlR W W.heap.size A T from (h.below (B1.trans (hW.mono B1.size))).more (B1.trans (hW.mono B1.size)).size)
  clear x1 B1 h
  unfold maxLen at hl
  go_enter Tryz.func9, Tryz.ntmps9
  go_upto_region 1 with fail
  rw [← hw1]
  clear hw1
  obtain ⟨y0, y1, z1⟩ := HX.out w1 (Below.refl _ _)
  by_cases h0 : n < 0
  · go_wp2_with fail
    go_ret
    exact ⟨ret_bool (by rw [HN.out]; have : ¬ 0 ≤ n := (by omega); simp [this]), HB1.out⟩
  by_cases h64 : 64 < n
  · go_wp2_with fail
    go_ret
    exact ⟨ret_bool (by rw [HN.out]; have : ¬ n ≤ 64 := (by omega); simp [this]), HB1.out⟩
  by_cases h5 : 5000 < T.length
  · go_wp2_with fail
    go_ret
    exact ⟨ret_bool (by rw [HN.out]; have : ¬ T.length ≤ 5000 := (by omega); simp [this]), HB1.out⟩
  have hN2 := hid (show netOK (n, T) = !T.any (badT n) by rw [HN.out]; simp [show 0 ≤ n by omega, show n ≤ 64 by omega, show T.length ≤ 5000 by omega])
  go_upto_region 4 with fail
  clear y0 y1 z1 h0 h64
  go_loopw [3] (fun i wr => ∃ k : Nat, k ≤ T.length ∧ i = .int .i64 k ∧ Below w1.heap.size w1 wr ∧ (T.take k).any (badT n) = false) (fun i _ => T.length - (intOf i).toNat)
  case atStart => exact ⟨0, by omega, rfl, Below.refl _ _, by simp⟩
  case round =>
    obtain ⟨k, hk, rfl, hB, ht⟩ := hrel
    have HT := hid ht
    have HB := hid hB
    clear ht hB
    obtain ⟨y0, y1, z1⟩ := HX.out wr HB.out
    by_cases hlt : k < T.length
    · have hlt' : (k : Int) < T.length := by omega
      have hy := hid (show badT n T[k] = true → netOK (n, T) = false from fun hf => by
        rw [hN2.out]
        have : T.any (badT n) = true := List.any_eq_true.2 ⟨_, List.getElem_mem hlt, hf⟩
        rw [this]; simp)
      have hst := hid (show (T.take (k + 1)).any (badT n) = badT n T[k] by rw [List.take_add_one, List.getElem?_eq_getElem hlt, List.any_append, HT.out]; simp)
      obtain ⟨b, off, A1, c1, A2, c2, rfl, hb, g0, g1, s1, s2, l1, l2⟩ := (HTT.out wr HB.out).tr hlt
      generalize T[k] = t at *
      obtain ⟨I, O⟩ := t
      simp only at g0 g1 s1 s2 l1 l2
      go_upto_region 6 with fail
      have HSF := hid (fun (wq : World) (hq : Below wr.heap.size wr wq) => And.intro (HX.out wq (HB.out.trans (hq.mono HB.out.size))) (And.intro ((bcell hq _ _ hb).trans g0) ((bcell hq _ _ hb).trans g1)))
      have HS1 := hid (fun (wq : World) (hq : Below wr.heap.size wr wq) => set_r n A1 c1 I wq l1 ((s1.below hq).more hq.size))
      have HS2 := hid (fun (wq : World) (hq : Below wr.heap.size wr wq) => set_r n A2 c2 O wq l2 ((s2.below hq).more hq.size))
      have BD := hid ((Below.refl wr.heap.size wr).drew)
      refine wpIn_wide.1 (wpIn_region_S (n := 0) (fun wq => Below wr.heap.size wr wq) [] (by kernel_rfl) BD.out (fun hHeld => ?_))
      generalize wr.drew = wd at *
      clear y0 y1 g0 g1 s1 s2 l1 l2
      refine wpAnyG_pure 0 (v := ?_) (fun _ => trivial) (by simp only [List.getElem?_toArray, List.getElem?_cons_succ, List.getElem?_cons_zero]; rfl) (by kernel_rfl) (fun _ _ _ _ _ h => h) ⟨(by rfl), (by intro c h; cases h), ?_⟩ hHeld ?_
      rotate_left
      focus (intro wS hSw; (try replace hSw := HSF.out wS hSw); (try dsimp only at hSw); go_simp; (try with_reducible rfl))
      (try simp only [Act.put, List.setIfInBounds_toArray, List.set_cons_zero, List.set_cons_succ])
      refine wpAnyG_take 1 (v := ?_) (fun _ => trivial) (by simp only [List.getElem?_toArray, List.getElem?_cons_succ, List.getElem?_cons_zero]; rfl) (by kernel_rfl) (fun _ _ _ _ _ h => h) ⟨(by rfl), (by intro c h; cases h), ?_⟩ hHeld ?_
      rotate_left
      focus (intro wS hSw; (try replace hSw := HSF.out wS hSw); (try dsimp only at hSw); go_simp; (try with_reducible rfl))
      (try simp only [Act.put, List.setIfInBounds_toArray, List.set_cons_zero, List.set_cons_succ])
      refine wpAnyG_pure 2 (v := ?_) (fun _ => trivial) (by simp only [List.getElem?_toArray, List.getElem?_cons_succ, List.getElem?_cons_zero]; rfl) (by kernel_rfl) (fun _ _ _ _ _ h => h) ⟨(by rfl), (by intro c h; cases h), ?_⟩ hHeld ?_
      rotate_left
      focus (intro wS hSw; (try replace hSw := HSF.out wS hSw); (try dsimp only at hSw); go_simp; (try with_reducible rfl))
      (try simp only [Act.put, List.setIfInBounds_toArray, List.set_cons_zero, List.set_cons_succ])
      refine wpAnyG_take 3 (v := ?_) (fun _ => trivial) (by simp only [List.getElem?_toArray, List.getElem?_cons_succ, List.getElem?_cons_zero]; rfl) (by kernel_rfl) (fun _ _ _ _ _ h => h) ⟨(by rfl), (by intro c h; cases h), ?_⟩ hHeld ?_
      rotate_left
      focus (intro wS hSw; (try replace hSw := HSF.out wS hSw); (try dsimp only at hSw); go_simp; (try with_reducible rfl))
      (try simp only [Act.put, List.setIfInBounds_toArray, List.set_cons_zero, List.set_cons_succ])
      refine wpAnyG_pure 4 (v := ?_) (fun _ => trivial) (by simp only [List.getElem?_toArray, List.getElem?_cons_succ, List.getElem?_cons_zero]; rfl) (by kernel_rfl) (fun _ _ _ _ _ h => h) ⟨(by rfl), (by intro c h; cases h), ?_⟩ hHeld ?_
      rotate_left
      focus (intro wS hSw; (try replace hSw := HSF.out wS hSw); (try dsimp only at hSw); go_simp; (try with_reducible rfl))
      (try simp only [Act.put, List.setIfInBounds_toArray, List.set_cons_zero, List.set_cons_succ])
      refine wpAnyG_pure 5 (v := ?_) (fun _ => trivial) (by simp only [List.getElem?_toArray, List.getElem?_cons_succ, List.getElem?_cons_zero]; rfl) (by kernel_rfl) (fun _ _ _ _ _ h => h) ⟨(by rfl), (by intro c h; cases h), ?_⟩ hHeld ?_
      rotate_left
      focus (intro wS hSw; (try replace hSw := HSF.out wS hSw); (try dsimp only at hSw); go_simp; (try with_reducible rfl))
      (try simp only [Act.put, List.setIfInBounds_toArray, List.set_cons_zero, List.set_cons_succ])
      refine wpAnyG_pure 6 (v := ?_) (fun _ => trivial) (by simp only [List.getElem?_toArray, List.getElem?_cons_succ, List.getElem?_cons_zero]; rfl) (by kernel_rfl) (fun _ _ _ _ _ h => h) ⟨(by rfl), (by intro c h; cases h), ?_⟩ hHeld ?_
      rotate_left
      focus (intro wS hSw; (try replace hSw := HSF.out wS hSw); (try dsimp only at hSw); go_simp; (try with_reducible rfl))
      (try simp only [Act.put, List.setIfInBounds_toArray, List.set_cons_zero, List.set_cons_succ])
      refine wpAnyG_take 7 (v := ?_) (fun _ => trivial) (by simp only [List.getElem?_toArray, List.getElem?_cons_succ, List.getElem?_cons_zero]; rfl) (by kernel_rfl) (fun _ _ _ _ _ h => h) ⟨(by rfl), (by intro c h; cases h), ?_⟩ hHeld ?_
      rotate_left
      focus (intro wS hSw; (try replace hSw := HSF.out wS hSw); (try dsimp only at hSw); go_simp; (try with_reducible rfl))
      (try simp only [Act.put, List.setIfInBounds_toArray, List.set_cons_zero, List.set_cons_succ])
      cases hq1 : setB n I with
      | false =>
        have hr := hid (hy.out (by unfold badT; simp [hq1]))
        rw [hq1] at HS1
        clear hq1
        refine wpAnyS_ready [8] (by kernel_rfl) (by simp) (AllReadyS.consG (by simp only [List.getElem?_toArray, List.getElem?_cons_succ, List.getElem?_cons_zero]; rfl) (by rfl) (fun K hK => ?_) AllReadyS.nil)
        refine callS (by intro c h; cases h) (by go_simp; try with_reducible rfl) (HS1.out _ BD.out) ?_
        intro wa hBq
        have Ba := hid (BD.out.trans (hBq.mono BD.out.size))
        refine hK.out _ _ Ba.out ?_
        (try simp only [Act.put, List.setIfInBounds_toArray, List.set_cons_zero, List.set_cons_succ])
        clear hK K hBq
        clear hHeld
        have hHeld := Ba.out
        refine wpAnyG_pure 9 (v := ?_) (fun _ => trivial) (by simp only [List.getElem?_toArray, List.getElem?_cons_succ, List.getElem?_cons_zero]; rfl) (by kernel_rfl) (fun _ _ _ _ _ h => h) ⟨(by rfl), (by intro c h; cases h), ?_⟩ hHeld ?_
        rotate_left
        focus (intro wS hSw; (try replace hSw := HSF.out wS hSw); (try dsimp only at hSw); go_simp; (try with_reducible rfl))
        (try simp only [Act.put, List.setIfInBounds_toArray, List.set_cons_zero, List.set_cons_succ])
        refine wpAnyG_pure 10 (v := ?_) (fun _ => trivial) (by simp only [List.getElem?_toArray, List.getElem?_cons_succ, List.getElem?_cons_zero]; rfl) (by kernel_rfl) (fun _ _ _ _ _ h => h) ⟨(by rfl), (by intro c h; cases h), ?_⟩ hHeld ?_
        rotate_left
        focus (intro wS hSw; (try replace hSw := HSF.out wS hSw); (try dsimp only at hSw); go_simp; (try with_reducible rfl))
        (try simp only [Act.put, List.setIfInBounds_toArray, List.set_cons_zero, List.set_cons_succ])
        refine wpAnyG_skip 11 (fun _ => trivial) (by simp only [List.getElem?_toArray, List.getElem?_cons_succ, List.getElem?_cons_zero]; rfl) (by kernel_rfl) (fun _ _ _ _ _ h => h) (by rfl) hHeld ?_
        (try simp only [Act.put, List.setIfInBounds_toArray, List.set_cons_zero, List.set_cons_succ])
        refine wpAnyG_skip 12 (fun _ => trivial) (by simp only [List.getElem?_toArray, List.getElem?_cons_succ, List.getElem?_cons_zero]; rfl) (by kernel_rfl) (fun _ _ _ _ _ h => h) (by rfl) hHeld ?_
        (try simp only [Act.put, List.setIfInBounds_toArray, List.set_cons_zero, List.set_cons_succ])
        refine wpAnyG_skip 13 (fun _ => trivial) (by simp only [List.getElem?_toArray, List.getElem?_cons_succ, List.getElem?_cons_zero]; rfl) (by kernel_rfl) (fun _ _ _ _ _ h => h) (by rfl) hHeld ?_
        (try simp only [Act.put, List.setIfInBounds_toArray, List.set_cons_zero, List.set_cons_succ])
        refine wpAnyG_skip 14 (fun _ => trivial) (by simp only [List.getElem?_toArray, List.getElem?_cons_succ, List.getElem?_cons_zero]; rfl) (by kernel_rfl) (fun _ _ _ _ _ h => h) (by rfl) hHeld ?_
        (try simp only [Act.put, List.setIfInBounds_toArray, List.set_cons_zero, List.set_cons_succ])
        refine wpAnyG_skip 15 (fun _ => trivial) (by simp only [List.getElem?_toArray, List.getElem?_cons_succ, List.getElem?_cons_zero]; rfl) (by kernel_rfl) (fun _ _ _ _ _ h => h) (by rfl) hHeld ?_
        (try simp only [Act.put, List.setIfInBounds_toArray, List.set_cons_zero, List.set_cons_succ])
        refine wpAnyG_skip 16 (fun _ => trivial) (by simp only [List.getElem?_toArray, List.getElem?_cons_succ, List.getElem?_cons_zero]; rfl) (by kernel_rfl) (fun _ _ _ _ _ h => h) (by rfl) hHeld ?_
        (try simp only [Act.put, List.setIfInBounds_toArray, List.set_cons_zero, List.set_cons_succ])
        refine wpAnyG_skip 17 (fun _ => trivial) (by simp only [List.getElem?_toArray, List.getElem?_cons_succ, List.getElem?_cons_zero]; rfl) (by kernel_rfl) (fun _ _ _ _ _ h => h) (by rfl) hHeld ?_
        (try simp only [Act.put, List.setIfInBounds_toArray, List.set_cons_zero, List.set_cons_succ])
        refine wpAnyG_skip 18 (fun _ => trivial) (by simp only [List.getElem?_toArray, List.getElem?_cons_succ, List.getElem?_cons_zero]; rfl) (by kernel_rfl) (fun _ _ _ _ _ h => h) (by rfl) hHeld ?_
        (try simp only [Act.put, List.setIfInBounds_toArray, List.set_cons_zero, List.set_cons_succ])
        refine wpAnyG_skip 19 (fun _ => trivial) (by simp only [List.getElem?_toArray, List.getElem?_cons_succ, List.getElem?_cons_zero]; rfl) (by kernel_rfl) (fun _ _ _ _ _ h => h) (by rfl) hHeld ?_
        (try simp only [Act.put, List.setIfInBounds_toArray, List.set_cons_zero, List.set_cons_succ])
        refine wpAnyG_skip 20 (fun _ => trivial) (by simp only [List.getElem?_toArray, List.getElem?_cons_succ, List.getElem?_cons_zero]; rfl) (by kernel_rfl) (fun _ _ _ _ _ h => h) (by rfl) hHeld ?_
        (try simp only [Act.put, List.setIfInBounds_toArray, List.set_cons_zero, List.set_cons_succ])
        refine wpAnyG_pure 21 (v := ?_) (fun _ => trivial) (by simp only [List.getElem?_toArray, List.getElem?_cons_succ, List.getElem?_cons_zero]; rfl) (by kernel_rfl) (fun _ _ _ _ _ h => h) ⟨(by rfl), (by intro c h; cases h), ?_⟩ hHeld ?_
        rotate_left
        focus (intro wS hSw; (try replace hSw := HSF.out wS hSw); (try dsimp only at hSw); go_simp; (try with_reducible rfl))
        (try simp only [Act.put, List.setIfInBounds_toArray, List.set_cons_zero, List.set_cons_succ])
        refine wpAnyS_done (by kernel_rfl) ?_
        clear hHeld HSF
        go_wp2_with fail
        go_ret
        exact ⟨ret_bool hr.out.symm, HB1.out.trans ((HB.out.trans (Ba.out.mono HB.out.size)).mono HB1.out.size)⟩
      | true =>
        rw [hq1] at HS1
        refine wpAnyS_ready [8] (by kernel_rfl) (by simp) (AllReadyS.consG (by simp only [List.getElem?_toArray, List.getElem?_cons_succ, List.getElem?_cons_zero]; rfl) (by rfl) (fun K hK => ?_) AllReadyS.nil)
        refine callS (by intro c h; cases h) (by go_simp; try with_reducible rfl) (HS1.out _ BD.out) ?_
        intro wa hBq
        have Ba := hid (BD.out.trans (hBq.mono BD.out.size))
        refine hK.out _ _ Ba.out ?_
        (try simp only [Act.put, List.setIfInBounds_toArray, List.set_cons_zero, List.set_cons_succ])
        clear hK K hBq
        clear hHeld
        have hHeld := Ba.out
        refine wpAnyG_pure 9 (v := ?_) (fun _ => trivial) (by simp only [List.getElem?_toArray, List.getElem?_cons_succ, List.getElem?_cons_zero]; rfl) (by kernel_rfl) (fun _ _ _ _ _ h => h) ⟨(by rfl), (by intro c h; cases h), ?_⟩ hHeld ?_
        rotate_left
        focus (intro wS hSw; (try replace hSw := HSF.out wS hSw); (try dsimp only at hSw); go_simp; (try with_reducible rfl))
        (try simp only [Act.put, List.setIfInBounds_toArray, List.set_cons_zero, List.set_cons_succ])
        refine wpAnyG_pure 10 (v := ?_) (fun _ => trivial) (by simp only [List.getElem?_toArray, List.getElem?_cons_succ, List.getElem?_cons_zero]; rfl) (by kernel_rfl) (fun _ _ _ _ _ h => h) ⟨(by rfl), (by intro c h; cases h), ?_⟩ hHeld ?_
        rotate_left
        focus (intro wS hSw; (try replace hSw := HSF.out wS hSw); (try dsimp only at hSw); go_simp; (try with_reducible rfl))
        (try simp only [Act.put, List.setIfInBounds_toArray, List.set_cons_zero, List.set_cons_succ])
        refine wpAnyG_pure 11 (v := ?_) (fun _ => trivial) (by simp only [List.getElem?_toArray, List.getElem?_cons_succ, List.getElem?_cons_zero]; rfl) (by kernel_rfl) (fun _ _ _ _ _ h => h) ⟨(by rfl), (by intro c h; cases h), ?_⟩ hHeld ?_
        rotate_left
        focus (intro wS hSw; (try replace hSw := HSF.out wS hSw); (try dsimp only at hSw); go_simp; (try with_reducible rfl))
        (try simp only [Act.put, List.setIfInBounds_toArray, List.set_cons_zero, List.set_cons_succ])
        refine wpAnyG_take 12 (v := ?_) (fun _ => trivial) (by simp only [List.getElem?_toArray, List.getElem?_cons_succ, List.getElem?_cons_zero]; rfl) (by kernel_rfl) (fun _ _ _ _ _ h => h) ⟨(by rfl), (by intro c h; cases h), ?_⟩ hHeld ?_
        rotate_left
        focus (intro wS hSw; (try replace hSw := HSF.out wS hSw); (try dsimp only at hSw); go_simp; (try with_reducible rfl))
        (try simp only [Act.put, List.setIfInBounds_toArray, List.set_cons_zero, List.set_cons_succ])
        refine wpAnyG_pure 13 (v := ?_) (fun _ => trivial) (by simp only [List.getElem?_toArray, List.getElem?_cons_succ, List.getElem?_cons_zero]; rfl) (by kernel_rfl) (fun _ _ _ _ _ h => h) ⟨(by rfl), (by intro c h; cases h), ?_⟩ hHeld ?_
        rotate_left
        focus (intro wS hSw; (try replace hSw := HSF.out wS hSw); (try dsimp only at hSw); go_simp; (try with_reducible rfl))
        (try simp only [Act.put, List.setIfInBounds_toArray, List.set_cons_zero, List.set_cons_succ])
        refine wpAnyG_take 14 (v := ?_) (fun _ => trivial) (by simp only [List.getElem?_toArray, List.getElem?_cons_succ, List.getElem?_cons_zero]; rfl) (by kernel_rfl) (fun _ _ _ _ _ h => h) ⟨(by rfl), (by intro c h; cases h), ?_⟩ hHeld ?_
        rotate_left
        focus (intro wS hSw; (try replace hSw := HSF.out wS hSw); (try dsimp only at hSw); go_simp; (try with_reducible rfl))
        (try simp only [Act.put, List.setIfInBounds_toArray, List.set_cons_zero, List.set_cons_succ])
        refine wpAnyG_pure 15 (v := ?_) (fun _ => trivial) (by simp only [List.getElem?_toArray, List.getElem?_cons_succ, List.getElem?_cons_zero]; rfl) (by kernel_rfl) (fun _ _ _ _ _ h => h) ⟨(by rfl), (by intro c h; cases h), ?_⟩ hHeld ?_
        rotate_left
        focus (intro wS hSw; (try replace hSw := HSF.out wS hSw); (try dsimp only at hSw); go_simp; (try with_reducible rfl))
        (try simp only [Act.put, List.setIfInBounds_toArray, List.set_cons_zero, List.set_cons_succ])
        refine wpAnyG_pure 16 (v := ?_) (fun _ => trivial) (by simp only [List.getElem?_toArray, List.getElem?_cons_succ, List.getElem?_cons_zero]; rfl) (by kernel_rfl) (fun _ _ _ _ _ h => h) ⟨(by rfl), (by intro c h; cases h), ?_⟩ hHeld ?_
        rotate_left
        focus (intro wS hSw; (try replace hSw := HSF.out wS hSw); (try dsimp only at hSw); go_simp; (try with_reducible rfl))
        (try simp only [Act.put, List.setIfInBounds_toArray, List.set_cons_zero, List.set_cons_succ])
        refine wpAnyG_pure 17 (v := ?_) (fun _ => trivial) (by simp only [List.getElem?_toArray, List.getElem?_cons_succ, List.getElem?_cons_zero]; rfl) (by kernel_rfl) (fun _ _ _ _ _ h => h) ⟨(by rfl), (by intro c h; cases h), ?_⟩ hHeld ?_
        rotate_left
        focus (intro wS hSw; (try replace hSw := HSF.out wS hSw); (try dsimp only at hSw); go_simp; (try with_reducible rfl))
        (try simp only [Act.put, List.setIfInBounds_toArray, List.set_cons_zero, List.set_cons_succ])
        refine wpAnyG_take 18 (v := ?_) (fun _ => trivial) (by simp only [List.getElem?_toArray, List.getElem?_cons_succ, List.getElem?_cons_zero]; rfl) (by kernel_rfl) (fun _ _ _ _ _ h => h) ⟨(by rfl), (by intro c h; cases h), ?_⟩ hHeld ?_
        rotate_left
        focus (intro wS hSw; (try replace hSw := HSF.out wS hSw); (try dsimp only at hSw); go_simp; (try with_reducible rfl))
        (try simp only [Act.put, List.setIfInBounds_toArray, List.set_cons_zero, List.set_cons_succ])
        cases hq2 : setB n O with
        | false =>
          have hr := hid (hy.out (by unfold badT; simp [hq2]))
          rw [hq2] at HS2
          clear hq1 hq2
          refine wpAnyS_ready [19] (by kernel_rfl) (by simp) (AllReadyS.consG (by simp only [List.getElem?_toArray, List.getElem?_cons_succ, List.getElem?_cons_zero]; rfl) (by rfl) (fun K hK => ?_) AllReadyS.nil)
          refine callS (by intro c h; cases h) (by go_simp; try with_reducible rfl) (HS2.out _ Ba.out) ?_
          intro wb hBq
          have Bb := hid (Ba.out.trans (hBq.mono Ba.out.size))
          refine hK.out _ _ Bb.out ?_
          (try simp only [Act.put, List.setIfInBounds_toArray, List.set_cons_zero, List.set_cons_succ])
          clear hK K hBq
          clear hHeld
          have hHeld := Bb.out
          refine wpAnyG_pure 20 (v := ?_) (fun _ => trivial) (by simp only [List.getElem?_toArray, List.getElem?_cons_succ, List.getElem?_cons_zero]; rfl) (by kernel_rfl) (fun _ _ _ _ _ h => h) ⟨(by rfl), (by intro c h; cases h), ?_⟩ hHeld ?_
          rotate_left
          focus (intro wS hSw; (try replace hSw := HSF.out wS hSw); (try dsimp only at hSw); go_simp; (try with_reducible rfl))
          (try simp only [Act.put, List.setIfInBounds_toArray, List.set_cons_zero, List.set_cons_succ])
          refine wpAnyG_pure 21 (v := ?_) (fun _ => trivial) (by simp only [List.getElem?_toArray, List.getElem?_cons_succ, List.getElem?_cons_zero]; rfl) (by kernel_rfl) (fun _ _ _ _ _ h => h) ⟨(by rfl), (by intro c h; cases h), ?_⟩ hHeld ?_
          rotate_left
          focus (intro wS hSw; (try replace hSw := HSF.out wS hSw); (try dsimp only at hSw); go_simp; (try with_reducible rfl))
          (try simp only [Act.put, List.setIfInBounds_toArray, List.set_cons_zero, List.set_cons_succ])
          refine wpAnyS_done (by kernel_rfl) ?_
          clear hHeld HSF
          go_wp2_with fail
          go_ret
          exact ⟨ret_bool hr.out.symm, HB1.out.trans ((HB.out.trans (Bb.out.mono HB.out.size)).mono HB1.out.size)⟩
        | true =>
          have hr := hid (show badT n (I, O) = false by unfold badT; simp [hq1, hq2])
          rw [hq2] at HS2
          clear hq1 hq2
          refine wpAnyS_ready [19] (by kernel_rfl) (by simp) (AllReadyS.consG (by simp only [List.getElem?_toArray, List.getElem?_cons_succ, List.getElem?_cons_zero]; rfl) (by rfl) (fun K hK => ?_) AllReadyS.nil)
          refine callS (by intro c h; cases h) (by go_simp; try with_reducible rfl) (HS2.out _ Ba.out) ?_
          intro wb hBq
          have Bb := hid (Ba.out.trans (hBq.mono Ba.out.size))
          refine hK.out _ _ Bb.out ?_
          (try simp only [Act.put, List.setIfInBounds_toArray, List.set_cons_zero, List.set_cons_succ])
          clear hK K hBq
          clear hHeld
          have hHeld := Bb.out
          refine wpAnyG_pure 20 (v := ?_) (fun _ => trivial) (by simp only [List.getElem?_toArray, List.getElem?_cons_succ, List.getElem?_cons_zero]; rfl) (by kernel_rfl) (fun _ _ _ _ _ h => h) ⟨(by rfl), (by intro c h; cases h), ?_⟩ hHeld ?_
          rotate_left
          focus (intro wS hSw; (try replace hSw := HSF.out wS hSw); (try dsimp only at hSw); go_simp; (try with_reducible rfl))
          (try simp only [Act.put, List.setIfInBounds_toArray, List.set_cons_zero, List.set_cons_succ])
          refine wpAnyG_pure 21 (v := ?_) (fun _ => trivial) (by simp only [List.getElem?_toArray, List.getElem?_cons_succ, List.getElem?_cons_zero]; rfl) (by kernel_rfl) (fun _ _ _ _ _ h => h) ⟨(by rfl), (by intro c h; cases h), ?_⟩ hHeld ?_
          rotate_left
          focus (intro wS hSw; (try replace hSw := HSF.out wS hSw); (try dsimp only at hSw); go_simp; (try with_reducible rfl))
          (try simp only [Act.put, List.setIfInBounds_toArray, List.set_cons_zero, List.set_cons_succ])
          refine wpAnyS_done (by kernel_rfl) ?_
          clear hHeld HSF
          go_wp2_with fail
          go_roundw
          case rel => exact ⟨k + 1, by omega, by go_num, HB.out.trans (Bb.out.mono HB.out.size), by rw [hst.out, hr.out]⟩
          case measure => simp [intOf]; omega
    · obtain rfl : k = T.length := by omega
      rw [List.take_length] at HT
      have hr := hid (show netOK (n, T) = true by rw [hN2.out, HT.out]; rfl)
      go_wp2_with fail
      go_ret
      exact ⟨ret_bool hr.out.symm, HB1.out.trans (HB.out.mono HB1.out.size)⟩
set_option maxRecDepth 100000 in
set_option maxHeartbeats 1000000 in
theorem enabled_r (n : Int) (A : Option Addr) (c : Nat) (T : List Tr) (B : Option Addr) (d : Nat) (m : List Int) (t : Int) (w : World) (hl : T.length ≤ maxLen) (h : SlR w w.heap.size A T) (hm : m.length ≤ maxLen) (hM : SlR w w.heap.size B m)
    (hn : n = m.length) (hok : netOK (n, T) = true) :
    Calls Tryz.prog 33 #[.agg #[.int .i64 n, .slice A T.length c], .slice B m.length d, .int .i64 t] w fun e w' => e = .returned (.bool (enN T m t)) ∧ Below w.heap.size w w' := by
  replace hn := hid hn
  obtain ⟨w1, hw1⟩ : ∃ w1, w1 = (w.alloc (Obj.cells #[.int .i64 n, .slice A T.length c] 24)) := ⟨_, rfl⟩
  have B1 : Below w.heap.size w w1 := by rw [hw1]; (repeat (first | exact Below.refl _ _ | assumption | refine below_drewN ?_ _ | refine Below.drew ?_ | refine Below.alloc ?_ (by (try simp); (try omega)) _ | refine Below.setCell ?_ (by (try simp); (try omega)) _))
  have x1 : Blk w1 w.heap.size 24 #[.int .i64 n, .slice A T.length c] := by rw [hw1]; exact Blk.new w _ _
  have HX := hid (fun (W : World) (hW : Below w1.heap.size w1 W) => And.intro (show W.cell? ⟨w.heap.size, 0, none⟩ = some (.int .i64 n) from (bcell hW _ _ x1.lt).trans (by rw [x1.cell]; rfl)) (And.intro (show W.cell? ⟨w.heap.size, 1, none⟩ = some (.slice A T.length c) from (bcell hW _ _ x1.lt).trans (by rw [x1.cell]; rfl)) (show w.heap.size < W.heap.size from Nat.lt_of_lt_of_le x1.lt hW.size)))
  have HB1 := hid B1
  have h1 := (h.below B1).more B1.size
  have hM1 := (hM.below B1).more B1.size
  clear x1 B1 h hM
  obtain ⟨y0, y1, z1⟩ := HX.out w1 (Below.refl _ _)
  by_cases h0 : t < 0
  · have hr := hid (show enN T m t = false by have : ¬ 0 ≤ t := by omega
                                              simp [enN, this])
    unfold maxLen at hl hm
    go_enter Tryz.func33, Tryz.ntmps33
    go_upto_region 1 with fail
    rw [← hw1]
    clear hw1
    go_wp2_with fail
    go_ret
    exact ⟨ret_bool hr.out.symm, HB1.out⟩
  by_cases hT : (T.length : Int) ≤ t
  · have hr := hid (show enN T m t = false by have : ¬ t < T.length := by omega
                                              simp [enN, this])
    unfold maxLen at hl hm
    go_enter Tryz.func33, Tryz.ntmps33
    go_upto_region 1 with fail
    rw [← hw1]
    clear hw1
    go_wp2_with fail
    go_ret
    exact ⟨ret_bool hr.out.symm, HB1.out⟩
  obtain ⟨q, rfl⟩ : ∃ q : Nat, t = q := ⟨t.toNat, by omega⟩
  have hq : q < T.length := by omega
  have hq' : (q : Int) < T.length := by omega
  have hset : setB n T[q].1 = true := by
    simp only [netOK, Bool.and_eq_true, List.all_eq_true] at hok
    exact (hok.2 _ (List.getElem_mem hq)).1
  obtain ⟨b, off, A1, c1, A2, c2, rfl, hb, g0, g1, hs1, hs2, hl1, hl2⟩ := h1.tr hq
  have hr := hid (show enN T m q = !T[q].1.any (lowF m) by simp [enN, hq])
  have hmem := hid (fun p (hp : p ∈ T[q].1) => setB_mem hset p hp)
  clear h1 hs2 g1 hset hok hl2
  generalize T[q].1 = I at *
  unfold maxLen at hl hm hl1
  go_enter Tryz.func33, Tryz.ntmps33
  go_upto_region 1 with fail
  rw [← hw1]
  clear hw1
  go_upto_region 5 with fail
  go_loopw [8] (fun i wr => ∃ k : Nat, k ≤ I.length ∧ i = .int .i64 k ∧ w1 = wr ∧ (I.take k).any (lowF m) = false) (fun i _ => I.length - (intOf i).toNat)
  case atStart => exact ⟨0, by omega, rfl, rfl, by simp⟩
  case round =>
    obtain ⟨k, hk, rfl, rfl, ht⟩ := hrel
    have HT := hid ht
    clear ht
    by_cases hlt : k < I.length
    · have hlt' : (k : Int) < I.length := by omega
      have hp := hmem.out I[k] (List.getElem_mem hlt)
      rw [hn.out] at hp
      obtain ⟨b1, o1, rfl, hb1, e1, _⟩ := hs1.int hlt
      have hno := hid (show lowF m I[k] = true → enN T m q = false from fun hf => by
        rw [hr.out]
        have : I.any (lowF m) = true := List.any_eq_true.2 ⟨_, List.getElem_mem hlt, hf⟩
        rw [this]; rfl)
      have hst := hid (show (I.take (k + 1)).any (lowF m) = lowF m I[k] by rw [List.take_add_one, List.getElem?_eq_getElem hlt, List.any_append, HT.out]; simp)
      generalize I[k] = x at *
      obtain ⟨p, rfl⟩ := Int.eq_ofNat_of_zero_le hp.1
      have hpm : p < m.length := by omega
      have hpm' : (p : Int) < m.length := by omega
      obtain ⟨b2, o2, rfl, hb2, e2, _⟩ := hM1.int hpm
      have hlw := hid (show lowF m (p : Nat) = decide (m[p] < 1) by unfold lowF; rw [Int.toNat_natCast, List.getD_eq_getElem?_getD, List.getElem?_eq_getElem hpm]; rfl)
      generalize m[p] = v at *
      clear hp
      by_cases hv : v < 1
      · go_wp2_with fail
        go_ret
        exact ⟨ret_bool (by rw [hno.out (by rw [hlw.out]; exact decide_eq_true hv)]), HB1.out⟩
      · go_wp2_with fail
        go_roundw
        case rel => exact ⟨k + 1, by omega, by go_num, by first | trivial | rfl, by rw [hst.out, hlw.out]; exact decide_eq_false hv⟩
        case measure => simp [intOf]; omega
    · obtain rfl : k = I.length := by omega
      rw [List.take_length] at HT
      go_wp2_with fail
      go_ret
      exact ⟨ret_bool (by rw [hr.out, HT.out]; rfl), HB1.out⟩
set_option maxRecDepth 100000 in
set_option maxHeartbeats 2000000 in
theorem siphon_r (n : Int) (A : Option Addr) (c : Nat) (T : List Tr) (B : Option Addr) (d : Nat) (s : List Int) (w : World) (hl : T.length ≤ maxLen) (h : SlR w w.heap.size A T) (hs : s.length ≤ maxLen) (hS : SlR w w.heap.size B s) (hok : netOK (n, T) = true) :
    Calls Tryz.prog 13 #[.agg #[.int .i64 n, .slice A T.length c], .slice B s.length d] w fun e w' => e = .returned (.bool (isN n T false s)) ∧ Below w.heap.size w w' := by
  obtain ⟨w1, hw1⟩ : ∃ w1, w1 = (w.alloc (Obj.cells #[.int .i64 n, .slice A T.length c] 24)) := ⟨_, rfl⟩
  have B1 : Below w.heap.size w w1 := by rw [hw1]; (repeat (first | exact Below.refl _ _ | assumption | refine below_drewN ?_ _ | refine Below.drew ?_ | refine Below.alloc ?_ (by (try simp); (try omega)) _ | refine Below.setCell ?_ (by (try simp); (try omega)) _))
  have x1 : Blk w1 w.heap.size 24 #[.int .i64 n, .slice A T.length c] := by rw [hw1]; exact Blk.new w _ _
  have HX := hid (fun (W : World) (hW : Below w1.heap.size w1 W) => And.intro (show W.cell? ⟨w.heap.size, 0, none⟩ = some (.int .i64 n) from (bcell hW _ _ x1.lt).trans (by rw [x1.cell]; rfl)) (And.intro (show W.cell? ⟨w.heap.size, 1, none⟩ = some (.slice A T.length c) from (bcell hW _ _ x1.lt).trans (by rw [x1.cell]; rfl)) (show w.heap.size < W.heap.size from Nat.lt_of_lt_of_le x1.lt hW.size)))
  have HB1 := hid B1
  have HR := hid (isN_ref hok false s)
  have HTT := hid (fun (W : World) (hW : Below w1.heap.size w1 W) => show SlR W W.heap.size A T from (h.below (B1.trans (hW.mono B1.size))).more (B1.trans (hW.mono B1.size)).size)
  have HSS := hid (fun (W : World) (hW : Below w1.heap.size w1 W) => show SlR W W.heap.size B s from (hS.below (B1.trans (hW.mono B1.size))).more (B1.trans (hW.mono B1.size)).size)
  have HST := hid (set_r n B d s w1 hs (HSS.out w1 (Below.refl _ _)))
  have hsm := hid hs
  clear x1 B1 h hS hok
  unfold maxLen at hl hs
  go_enter Tryz.func13, Tryz.ntmps13
  go_upto_region 1 with fail
  rw [← hw1]
  clear hw1
  obtain ⟨y0, y1, z1⟩ := HX.out w1 (Below.refl _ _)
  by_cases hs0 : s.length = 0
  · have hr := hid (show isN n T false s = false by rw [HR.out]; simp [hs0])
    have hb0 : (((s.length : Nat) : Int) == 0) = true := by simp [hs0]
    rw [hs0]
    as_aux_lemma =>
      go_wp2_with fail
      go_ret
      exact ⟨ret_bool hr.out.symm, HB1.out⟩
  have hb0 : (((s.length : Nat) : Int) == 0) = false := by simp [hs0]
  cases hq : setB n s with
  | false =>
    have hr := hid (show isN n T false s = false by rw [HR.out, hq]; simp)
    rw [hq] at HST
    clear hq
    as_aux_lemma =>
      go_wp2_with (go_at_call 49; refine HST.out.mono ?_; rintro e w2 ⟨rfl, hB⟩)
      have HB2 := hid hB
      clear hB
      go_wp2_with fail
      go_ret
      exact ⟨ret_bool hr.out.symm, HB1.out.trans (HB2.out.mono HB1.out.size)⟩
  | true =>
  rw [hq] at HST
  have hr2 := hid (show isN n T false s = !T.any (hitT false s) by rw [HR.out, hq]; simp [hs0])
  clear hq
  go_upto_region 4 with (go_at_call 49; refine HST.out.mono ?_; rintro e w2 ⟨rfl, hB⟩; have HB2 := hid hB; clear hB)
  clear y0 y1 z1 HST
  go_loopw [5] (fun i wr => ∃ k : Nat, k ≤ T.length ∧ i = .int .i64 k ∧ Below w1.heap.size w1 wr ∧ (T.take k).any (hitT false s) = false) (fun i _ => T.length - (intOf i).toNat)
  case atStart => exact ⟨0, by omega, rfl, HB2.out, by simp⟩
  case round =>
    clear HB2
    obtain ⟨k, hk, rfl, hB, ht⟩ := hrel
    have HT := hid ht
    have HB := hid hB
    clear ht hB
    obtain ⟨y0, y1, z1⟩ := HX.out wr HB.out
    by_cases hlt : k < T.length
    · have hlt' : (k : Int) < T.length := by omega
      have hy := hid (show hitT false s T[k] = true → isN n T false s = false from fun hf => by
        rw [hr2.out]
        have : T.any (hitT false s) = true := List.any_eq_true.2 ⟨_, List.getElem_mem hlt, hf⟩
        rw [this]; rfl)
      have hst := hid (show (T.take (k + 1)).any (hitT false s) = hitT false s T[k] by rw [List.take_add_one, List.getElem?_eq_getElem hlt, List.any_append, HT.out]; simp)
      obtain ⟨b, off, A1, c1, A2, c2, rfl, hb, g0, g1, s1, s2, l1, l2⟩ := (HTT.out wr HB.out).tr hlt
      generalize T[k] = t at *
      obtain ⟨I, O⟩ := t
      simp only at g0 g1 s1 s2 l1 l2
      have hh := hid (show hitT false s (I, O) = (meetsN O s && !meetsN I s) from rfl)
      have HM1 := hid (meets_any A2 B c2 d O s wr l2 hsm.out s2 (HSS.out wr HB.out))
      have HM2 := hid (fun (W : World) (hW : Below wr.heap.size wr W) => meets_any A1 B c1 d I s W l1 hsm.out ((s1.below hW).more hW.size) (HSS.out W (HB.out.trans (hW.mono HB.out.size))))
      clear s1 s2 l1 l2
      cases hq1 : meetsN O s with
      | false =>
        have hno := hid (show hitT false s (I, O) = false by rw [hh.out, hq1]; rfl)
        rw [hq1] at HM1
        clear hq1
        as_aux_lemma =>
          go_wp2_with (go_at_call 57; refine HM1.out.mono ?_; rintro e w5 ⟨rfl, hB5⟩)
          have HB5 := hid (HB.out.trans (hB5.mono HB.out.size))
          clear hB5
          go_wp2_with fail
          go_roundw
          case rel => exact ⟨k + 1, by omega, by go_num, HB5.out, by rw [hst.out, hno.out]⟩
          case measure => simp [intOf]; omega
      | true =>
        rw [hq1] at HM1
        go_wp2_with fail
        refine HM1.out.mono ?_
        rintro e w5 ⟨rfl, hB5⟩
        have HB5 := hid (HB.out.trans (hB5.mono HB.out.size))
        have HM3 := hid (HM2.out w5 hB5)
        replace g0 := (bcell hB5 _ _ hb).trans g0
        replace g1 := (bcell hB5 _ _ hb).trans g1
        have hz5 : b < w5.heap.size := by have := hB5.size; omega
        clear hB5 HM2 HM1 y0 y1 z1
        obtain ⟨y0, y1, z1⟩ := HX.out w5 HB5.out
        cases hq2 : meetsN I s with
        | false =>
          have hyes := hid (hy.out (by rw [hh.out, hq1, hq2]; rfl))
          rw [hq2] at HM3
          clear hq1 hq2
          as_aux_lemma =>
            go_wp2_with (go_at_call 57; refine HM3.out.mono ?_; rintro e w6 ⟨rfl, hB6⟩)
            have HB6 := hid (HB5.out.trans (hB6.mono HB5.out.size))
            clear hB6
            go_wp2_with fail
            go_ret
            exact ⟨ret_bool hyes.out.symm, HB1.out.trans (HB6.out.mono HB1.out.size)⟩
        | true =>
          have hno := hid (show hitT false s (I, O) = false by rw [hh.out, hq1, hq2]; rfl)
          rw [hq2] at HM3
          clear hq1 hq2
          as_aux_lemma =>
            go_wp2_with (go_at_call 57; refine HM3.out.mono ?_; rintro e w6 ⟨rfl, hB6⟩)
            have HB6 := hid (HB5.out.trans (hB6.mono HB5.out.size))
            clear hB6
            go_wp2_with fail
            go_roundw
            case rel => exact ⟨k + 1, by omega, by go_num, HB6.out, by rw [hst.out, hno.out]⟩
            case measure => simp [intOf]; omega
    · obtain rfl : k = T.length := by omega
      rw [List.take_length] at HT
      go_wp2_with fail
      go_ret
      exact ⟨ret_bool (by rw [hr2.out, HT.out]; rfl), HB1.out.trans (HB.out.mono HB1.out.size)⟩
set_option maxRecDepth 100000 in
set_option maxHeartbeats 2000000 in
theorem trap_r (n : Int) (A : Option Addr) (c : Nat) (T : List Tr) (B : Option Addr) (d : Nat) (s : List Int) (w : World) (hl : T.length ≤ maxLen) (h : SlR w w.heap.size A T) (hs : s.length ≤ maxLen) (hS : SlR w w.heap.size B s) (hok : netOK (n, T) = true) :
    Calls Tryz.prog 15 #[.agg #[.int .i64 n, .slice A T.length c], .slice B s.length d] w fun e w' => e = .returned (.bool (isN n T true s)) ∧ Below w.heap.size w w' := by
  obtain ⟨w1, hw1⟩ : ∃ w1, w1 = (w.alloc (Obj.cells #[.int .i64 n, .slice A T.length c] 24)) := ⟨_, rfl⟩
  have B1 : Below w.heap.size w w1 := by rw [hw1]; (repeat (first | exact Below.refl _ _ | assumption | refine below_drewN ?_ _ | refine Below.drew ?_ | refine Below.alloc ?_ (by (try simp); (try omega)) _ | refine Below.setCell ?_ (by (try simp); (try omega)) _))
  have x1 : Blk w1 w.heap.size 24 #[.int .i64 n, .slice A T.length c] := by rw [hw1]; exact Blk.new w _ _
  have HX := hid (fun (W : World) (hW : Below w1.heap.size w1 W) => And.intro (show W.cell? ⟨w.heap.size, 0, none⟩ = some (.int .i64 n) from (bcell hW _ _ x1.lt).trans (by rw [x1.cell]; rfl)) (And.intro (show W.cell? ⟨w.heap.size, 1, none⟩ = some (.slice A T.length c) from (bcell hW _ _ x1.lt).trans (by rw [x1.cell]; rfl)) (show w.heap.size < W.heap.size from Nat.lt_of_lt_of_le x1.lt hW.size)))
  have HB1 := hid B1
  have HR := hid (isN_ref hok true s)
  have HTT := hid (fun (W : World) (hW : Below w1.heap.size w1 W) => show SlR W W.heap.size A T from (h.below (B1.trans (hW.mono B1.size))).more (B1.trans (hW.mono B1.size)).size)
  have HSS := hid (fun (W : World) (hW : Below w1.heap.size w1 W) => show SlR W W.heap.size B s from (hS.below (B1.trans (hW.mono B1.size))).more (B1.trans (hW.mono B1.size)).size)
  have HST := hid (set_r n B d s w1 hs (HSS.out w1 (Below.refl _ _)))
  have hsm := hid hs
  clear x1 B1 h hS hok
  unfold maxLen at hl hs
  go_enter Tryz.func15, Tryz.ntmps15
  go_upto_region 1 with fail
  rw [← hw1]
  clear hw1
  obtain ⟨y0, y1, z1⟩ := HX.out w1 (Below.refl _ _)
  by_cases hs0 : s.length = 0
  · have hr := hid (show isN n T true s = false by rw [HR.out]; simp [hs0])
    have hb0 : (((s.length : Nat) : Int) == 0) = true := by simp [hs0]
    rw [hs0]
    as_aux_lemma =>
      go_wp2_with fail
      go_ret
      exact ⟨ret_bool hr.out.symm, HB1.out⟩
  have hb0 : (((s.length : Nat) : Int) == 0) = false := by simp [hs0]
  cases hq : setB n s with
  | false =>
    have hr := hid (show isN n T true s = false by rw [HR.out, hq]; simp)
    rw [hq] at HST
    clear hq
    as_aux_lemma =>
      go_wp2_with (go_at_call 49; refine HST.out.mono ?_; rintro e w2 ⟨rfl, hB⟩)
      have HB2 := hid hB
      clear hB
      go_wp2_with fail
      go_ret
      exact ⟨ret_bool hr.out.symm, HB1.out.trans (HB2.out.mono HB1.out.size)⟩
  | true =>
  rw [hq] at HST
  have hr2 := hid (show isN n T true s = !T.any (hitT true s) by rw [HR.out, hq]; simp [hs0])
  clear hq
  go_upto_region 4 with (go_at_call 49; refine HST.out.mono ?_; rintro e w2 ⟨rfl, hB⟩; have HB2 := hid hB; clear hB)
  clear y0 y1 z1 HST
  go_loopw [5] (fun i wr => ∃ k : Nat, k ≤ T.length ∧ i = .int .i64 k ∧ Below w1.heap.size w1 wr ∧ (T.take k).any (hitT true s) = false) (fun i _ => T.length - (intOf i).toNat)
  case atStart => exact ⟨0, by omega, rfl, HB2.out, by simp⟩
  case round =>
    clear HB2
    obtain ⟨k, hk, rfl, hB, ht⟩ := hrel
    have HT := hid ht
    have HB := hid hB
    clear ht hB
    obtain ⟨y0, y1, z1⟩ := HX.out wr HB.out
    by_cases hlt : k < T.length
    · have hlt' : (k : Int) < T.length := by omega
      have hy := hid (show hitT true s T[k] = true → isN n T true s = false from fun hf => by
        rw [hr2.out]
        have : T.any (hitT true s) = true := List.any_eq_true.2 ⟨_, List.getElem_mem hlt, hf⟩
        rw [this]; rfl)
      have hst := hid (show (T.take (k + 1)).any (hitT true s) = hitT true s T[k] by rw [List.take_add_one, List.getElem?_eq_getElem hlt, List.any_append, HT.out]; simp)
      obtain ⟨b, off, A1, c1, A2, c2, rfl, hb, g0, g1, s1, s2, l1, l2⟩ := (HTT.out wr HB.out).tr hlt
      generalize T[k] = t at *
      obtain ⟨I, O⟩ := t
      simp only at g0 g1 s1 s2 l1 l2
      have hh := hid (show hitT true s (I, O) = (meetsN I s && !meetsN O s) from rfl)
      have HM1 := hid (meets_any A1 B c1 d I s wr l1 hsm.out s1 (HSS.out wr HB.out))
      have HM2 := hid (fun (W : World) (hW : Below wr.heap.size wr W) => meets_any A2 B c2 d O s W l2 hsm.out ((s2.below hW).more hW.size) (HSS.out W (HB.out.trans (hW.mono HB.out.size))))
      clear s1 s2 l1 l2
      cases hq1 : meetsN I s with
      | false =>
        have hno := hid (show hitT true s (I, O) = false by rw [hh.out, hq1]; rfl)
        rw [hq1] at HM1
        clear hq1
        as_aux_lemma =>
          go_wp2_with (go_at_call 57; refine HM1.out.mono ?_; rintro e w5 ⟨rfl, hB5⟩)
          have HB5 := hid (HB.out.trans (hB5.mono HB.out.size))
          clear hB5
          go_wp2_with fail
          go_roundw
          case rel => exact ⟨k + 1, by omega, by go_num, HB5.out, by rw [hst.out, hno.out]⟩
          case measure => simp [intOf]; omega
      | true =>
        rw [hq1] at HM1
        go_wp2_with fail
        refine HM1.out.mono ?_
        rintro e w5 ⟨rfl, hB5⟩
        have HB5 := hid (HB.out.trans (hB5.mono HB.out.size))
        have HM3 := hid (HM2.out w5 hB5)
        replace g0 := (bcell hB5 _ _ hb).trans g0
        replace g1 := (bcell hB5 _ _ hb).trans g1
        have hz5 : b < w5.heap.size := by have := hB5.size; omega
        clear hB5 HM2 HM1 y0 y1 z1
        obtain ⟨y0, y1, z1⟩ := HX.out w5 HB5.out
        cases hq2 : meetsN O s with
        | false =>
          have hyes := hid (hy.out (by rw [hh.out, hq1, hq2]; rfl))
          rw [hq2] at HM3
          clear hq1 hq2
          as_aux_lemma =>
            go_wp2_with (go_at_call 57; refine HM3.out.mono ?_; rintro e w6 ⟨rfl, hB6⟩)
            have HB6 := hid (HB5.out.trans (hB6.mono HB5.out.size))
            clear hB6
            go_wp2_with fail
            go_ret
            exact ⟨ret_bool hyes.out.symm, HB1.out.trans (HB6.out.mono HB1.out.size)⟩
        | true =>
          have hno := hid (show hitT true s (I, O) = false by rw [hh.out, hq1, hq2]; rfl)
          rw [hq2] at HM3
          clear hq1 hq2
          as_aux_lemma =>
            go_wp2_with (go_at_call 57; refine HM3.out.mono ?_; rintro e w6 ⟨rfl, hB6⟩)
            have HB6 := hid (HB5.out.trans (hB6.mono HB5.out.size))
            clear hB6
            go_wp2_with fail
            go_roundw
            case rel => exact ⟨k + 1, by omega, by go_num, HB6.out, by rw [hst.out, hno.out]⟩
            case measure => simp [intOf]; omega
    · obtain rfl : k = T.length := by omega
      rw [List.take_length] at HT
      go_wp2_with fail
      go_ret
      exact ⟨ret_bool (by rw [hr2.out, HT.out]; rfl), HB1.out.trans (HB.out.mono HB1.out.size)⟩
end Go.Proofs.YteljfpcmpdpehaaGreatDoor
