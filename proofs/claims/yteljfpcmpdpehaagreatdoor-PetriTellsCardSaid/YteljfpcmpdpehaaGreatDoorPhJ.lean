
/- PetriTells: what both sides answer, in one contract each: Read, Largest, Live; the nets that can be written down. -/
import Derived.Test.YteljfpcmpdpehaaGreatDoorPhI
import Derived.Test.YteljfpcmpdpehaaGreatDoorPhE
set_option linter.unusedSimpArgs false
set_option linter.unusedVariables false
namespace Go.Proofs.YteljfpcmpdpehaaGreatDoor
open Go.RowKit Go.IntWalk Go.Shelf

set_option maxRecDepth 100000 in
theorem siphons_big (n : Int) (A : Option Addr) (c m : Nat) (w : World) (hn : 14 < n) :
    Calls Tryz.prog 21 #[.agg #[.int .i64 n, .slice A m c]] w fun e w' => e = .returned (.tuple #[.slice none 0 0, .int .i64 27]) ∧ Below w.heap.size w w' := by
  obtain ⟨w1, hw1⟩ : ∃ w1, w1 = (w.alloc (Obj.cells #[.int .i64 n, .slice A m c] 24)) := ⟨_, rfl⟩
  have B1 : Below w.heap.size w w1 := by rw [hw1]; (repeat (first | exact Below.refl _ _ | assumption | refine below_drewN ?_ _ | refine Below.drew ?_ | refine Below.alloc ?_ (by (try simp); (try omega)) _ | refine Below.setCell ?_ (by (try simp); (try omega)) _))
  have x1 : Blk w1 w.heap.size 24 #[.int .i64 n, .slice A m c] := by rw [hw1]; exact Blk.new w _ _
  have y0 := x1.cell 0; have z1 := x1.lt
  simp at y0
  have HB1 := hid B1
  clear x1 B1
  go_enter Tryz.func21, Tryz.ntmps21
  go_upto_region 1 with fail
  rw [← hw1]
  clear hw1
  go_wp2_with fail
  go_ret2
  exact ⟨rfl, HB1.out⟩
set_option maxRecDepth 100000 in
theorem siphons_big_r (n : Int) (A : Option Addr) (c m : Nat) (w : World) (hn : 14 < n) :
    Calls Tryz.prog 22 #[.agg #[.int .i64 n, .slice A m c]] w fun e w' => e = .returned (.tuple #[.slice none 0 0, .int .i64 27]) ∧ Below w.heap.size w w' := by
  obtain ⟨w1, hw1⟩ : ∃ w1, w1 = (w.alloc (Obj.cells #[.int .i64 n, .slice A m c] 24)) := ⟨_, rfl⟩
  have B1 : Below w.heap.size w w1 := by rw [hw1]; (repeat (first | exact Below.refl _ _ | assumption | refine below_drewN ?_ _ | refine Below.drew ?_ | refine Below.alloc ?_ (by (try simp); (try omega)) _ | refine Below.setCell ?_ (by (try simp); (try omega)) _))
  have x1 : Blk w1 w.heap.size 24 #[.int .i64 n, .slice A m c] := by rw [hw1]; exact Blk.new w _ _
  have y0 := x1.cell 0; have z1 := x1.lt
  simp at y0
  have HB1 := hid B1
  clear x1 B1
  go_enter Tryz.func22, Tryz.ntmps22
  go_upto_region 1 with fail
  rw [← hw1]
  clear hw1
  go_wp2_with fail
  go_ret2
  exact ⟨rfl, HB1.out⟩
/-- What Siphons returns: the lists, and the error. -/
def RetSp (L : List (List Int)) (ec : Int) (w : World) (e : Ending) (w' : World) : Prop :=
  ∃ A c, e = .returned (.tuple #[.slice A L.length c, .int .i64 ec]) ∧ SlR w' w'.heap.size A L ∧ Below w.heap.size w w'
/-- Of both the same. -/
theorem siphons_both (n : Int) (A : Option Addr) (c : Nat) (T : List Tr) (hok : netOK (n, T) = true) : ∃ (L : List (List Int)) (ec : Int), L.length ≤ maxLen ∧ (∀ l ∈ L, l.length ≤ maxLen) ∧
    (∀ W, SlR W W.heap.size A T → PEnv W → Calls Tryz.prog 21 #[.agg #[.int .i64 n, .slice A T.length c]] W (RetSp L ec W)) ∧
    (∀ W, SlR W W.heap.size A T → Calls Tryz.prog 22 #[.agg #[.int .i64 n, .slice A T.length c]] W (RetSp L ec W)) := by
  by_cases h14 : 14 < n
  · refine ⟨[], 27, by simp, by simp, fun W _ _ => (siphons_big n A c T.length W h14).mono ?_, fun W _ => (siphons_big_r n A c T.length W h14).mono ?_⟩ <;>
    · rintro e w' ⟨rfl, hB⟩
      exact ⟨none, 0, rfl, SlR.nil, hB⟩
  · have h0 : 0 ≤ n := by
      simp only [netOK, Bool.and_eq_true, decide_eq_true_eq] at hok
      omega
    obtain ⟨N, rfl⟩ := Int.eq_ofNat_of_zero_le h0
    have hN : N ≤ 14 := by omega
    -- the words in their order: there are some
    obtain ⟨ws, hws⟩ : ∃ ws, WordsR N ws := by
      let l := List.range' 1 (2 ^ N - 1)
      refine ⟨l.mergeSort (fun a b => decide (0 ≤ cmpK b a)), List.mergeSort_perm _ _, ?_⟩
      have := List.pairwise_mergeSort (le := fun a b => decide (0 ≤ cmpK b a)) (fun a b c h1 h2 => by
        simp only [decide_eq_true_eq] at *
        exact cmpL_ge h2 h1) (fun a b => by
        simp only [Bool.or_eq_true, decide_eq_true_eq]
        rw [cmpK_neg a b]; omega) l
      exact this.imp (fun h => by simpa using h)
    have hM := minF_minW (E := edgesN ((N : Int), T) false) (show N ≤ 64 by omega) hws
    refine ⟨(minF (edgesN ((N : Int), T) false) ws).map listN, 0, ?_, ?_, fun W hs hE => (siphons_any N A c T W hN hs hok hE).mono ?_, fun W hs => (siphons_r N A c T W hN hs hok).mono ?_⟩
    · rw [List.length_map]
      have := nodup_bound (2 ^ N) _ (hM.sorted.imp (fun {a b} h e => by subst e; rw [cmpK_self] at h; omega)) (fun x hx => ((hM.mem x).1 hx).1)
      have : 2 ^ N ≤ 2 ^ 14 := Nat.pow_le_pow_right (by omega) hN
      unfold maxLen; omega
    · intro l hl
      obtain ⟨v, _, rfl⟩ := List.mem_map.1 hl
      have := listN_len v
      unfold maxLen; omega
    · rintro e w' ⟨ws', A', c', h1, rfl, h3, h4⟩
      obtain rfl := h1.uniq hN hws
      exact ⟨A', c', by rw [List.length_map], h3, h4⟩
    · rintro e w' ⟨F, A', c', h1, rfl, h2, h3, h4⟩
      obtain rfl := h1.uniq hM
      exact ⟨A', c', by rw [List.length_map], h3, h4⟩
end Go.Proofs.YteljfpcmpdpehaaGreatDoor
namespace Go.Proofs.YteljfpcmpdpehaaGreatDoor
open Go.RowKit Go.IntWalk Go.Shelf

theorem netB_few {n : Int} {T : List Tr} {p q : Int} (hn : I64 n) (hf : fewN n T p q = true) (hq : q ≤ 1000) (hi : ∀ t ∈ T, (∀ x ∈ t.1, I64 x) ∧ (∀ x ∈ t.2, I64 x)) : NetB n T := by
  simp only [fewN, Bool.and_eq_true, decide_eq_true_eq, List.all_eq_true] at hf
  obtain ⟨⟨_, h2⟩, h3⟩ := hf
  refine ⟨hn, by omega, fun t ht => ?_⟩
  have h4 := h3 t ht
  simp only [shF, Bool.and_eq_true, decide_eq_true_eq] at h4
  exact ⟨by omega, by omega, (hi t ht).1, (hi t ht).2⟩
theorem trs_le : ∀ T : List Tr, T.length ≤ ((T.map encTr).flatten).length
  | [] => by simp
  | t :: T => by
    have h1 := trs_le T
    have h2 : 0 < (encTr t).length := List.length_pos_iff.2 (encTr_ne t)
    rw [List.map_cons, List.flatten_cons, List.length_append, List.length_cons]
    omega
theorem netB_ok {n : Int} {T : List Tr} (hok : netOK (n, T) = true) (hl : T.length ≤ 1000) : NetB n T := by
  simp only [netOK, Bool.and_eq_true, decide_eq_true_eq, List.all_eq_true] at hok
  obtain ⟨⟨⟨h0, h64⟩, _⟩, hall⟩ := hok
  refine ⟨⟨by omega, by omega⟩, hl, fun t ht => ?_⟩
  obtain ⟨h1, h2⟩ := hall t ht
  have a1 := setB_len h1 h0
  have a2 := setB_len h2 h0
  exact ⟨by omega, by omega, set_i64 h64 h1, set_i64 h64 h2⟩
theorem netB_read {s : List UInt8} {n : Int} {T : List Tr} (hs : s.length ≤ 1000) (h : readNet s = some (n, T)) : NetB n T := by
  obtain ⟨h1, h2⟩ := readNet_some h
  refine netB_ok h1 ?_
  have h3 := trs_le T
  have h4 := congrArg List.length h2
  unfold encNet at h4
  simp only [List.length_append] at h4
  omega
/-- A net is returned, and whether there is one. -/
def RetNt (n : Int) (T : List Tr) (ok : Bool) (w : World) (e : Ending) (w' : World) : Prop :=
  ∃ A c, e = .returned (.tuple #[.agg #[.int .i64 n, .slice A T.length c], .bool ok]) ∧ SlR w' w'.heap.size A T ∧ Below w.heap.size w w'
theorem readn_both (s : ByteArray) (hs : s.size ≤ 1000) : ∃ (n : Int) (T : List Tr) (ok : Bool), T.length ≤ maxLen ∧ NetB n T ∧ (ok = true → encNet n T = s.data.toList) ∧
    (∀ W, Env W → Calls Tryz.prog 6 #[.string s] W (RetNt n T ok W)) ∧
    (∀ W, Calls Tryz.prog 7 #[.string s] W (RetNt n T ok W)) := by
  have h1 := fun W (he : Env W) => pread_p s W (by omega) he
  have h2 := fun W => rread_p s W (by omega)
  have hl : s.data.toList.length ≤ 1000 := by rw [← size_list]; exact hs
  cases hr : readNet s.data.toList with
  | none =>
    rw [hr] at h1 h2
    refine ⟨0, [], false, by simp, ⟨⟨by omega, by omega⟩, by simp, by simp⟩, (fun h => by cases h), fun W he => (h1 W he).mono ?_, fun W => (h2 W).mono ?_⟩ <;>
    · rintro e w' ⟨rfl, hB⟩
      exact ⟨none, 0, rfl, SlR.nil, hB⟩
  | some p =>
    obtain ⟨n, T⟩ := p
    have hb := netB_read hl hr
    rw [hr] at h1 h2
    refine ⟨n, T, true, by have := hb.len; unfold maxLen; omega, hb, fun _ => (readNet_some hr).2, fun W he => (h1 W he).mono ?_, fun W => (h2 W).mono ?_⟩ <;>
    · rintro e w' ⟨A, c, rfl, hs, _, hB⟩
      exact ⟨A, c, rfl, hs, hB⟩
/-- Read of what Bytes wrote. -/
theorem readn_enc (n : Int) (T : List Tr) (hok : netOK (n, T) = true) (hb : NetB n T) (s : ByteArray) (hs : s.data.toList = encNet n T) (hz : s.size ≤ 90000) (W : World) (he : Env W) :
    Calls Tryz.prog 6 #[.string s] W (RetNt n T true W) := by
  have h1 := pread_p s W hz he
  rw [hs, readNet_enc hok hb] at h1
  refine h1.mono ?_
  rintro e w' ⟨A, c, rfl, hs, _, hB⟩
  exact ⟨A, c, rfl, hs, hB⟩
/-- A list is returned. -/
def RetLs (r : List Int) (w : World) (e : Ending) (w' : World) : Prop :=
  ∃ A c, e = .returned (.slice A r.length c) ∧ SlR w' w'.heap.size A r ∧ Below w.heap.size w w'
theorem large_ex {n : Int} {T : List Tr} (hok : netOK (n, T) = true) (trap : Bool) (s : List Int) : ∃ r, LargeL n T trap s r := by
  unfold LargeL
  by_cases hs : setB n s = true
  · simp only [if_pos hs]
    have hn : n ≤ 64 := by simp only [netOK, Bool.and_eq_true, decide_eq_true_eq] at hok; omega
    have : ∀ (f v : Nat), v ≤ f → v < 2 ^ 64 → ∃ r, LargeR (edgesN (n, T) trap) v r := by
      intro f
      induction f with
      | zero => intro v hv _; obtain rfl : v = 0 := by omega
                exact ⟨0, LargeR.end_ (.inl rfl)⟩
      | succ f ih =>
        intro v hv hv64
        by_cases h0 : v = 0 ∨ closedN (edgesN (n, T) trap) v = true
        · exact ⟨v, LargeR.end_ h0⟩
        · have h1 : v ≠ 0 := fun h => h0 (.inl h)
          have h2 : closedN (edgesN (n, T) trap) v = false := by
            cases hc : closedN (edgesN (n, T) trap) v with
            | false => rfl
            | true => exact absurd (.inr hc) h0
          have hlt := sweep_lt hv64 (large_word hok trap) (not_closed h1 h2)
          obtain ⟨r, hr⟩ := ih (sweep (edgesN (n, T) trap) v) (by omega) (by omega)
          exact ⟨r, hr.step hv64 (large_word hok trap)⟩
    obtain ⟨r, hr⟩ := this (wordN s) (wordN s) (Nat.le_refl _) (word64 hn hs)
    exact ⟨listN r, r, hr, rfl⟩
  · simp only [if_neg hs]
    exact ⟨[], rfl⟩
theorem largest_both (n : Int) (A : Option Addr) (c : Nat) (T : List Tr) (B : Option Addr) (d : Nat) (s : List Int) (trap : Bool) (hl : T.length ≤ maxLen) (hs : s.length ≤ maxLen) (hok : netOK (n, T) = true) : ∃ r : List Int, r.length ≤ maxLen ∧
    (∀ W, SlR W W.heap.size A T → SlR W W.heap.size B s → PEnv W → Calls Tryz.prog 17 #[.agg #[.int .i64 n, .slice A T.length c], .slice B s.length d, .bool trap] W (RetLs r W)) ∧
    (∀ W, SlR W W.heap.size A T → SlR W W.heap.size B s → Calls Tryz.prog 18 #[.agg #[.int .i64 n, .slice A T.length c], .slice B s.length d, .bool trap] W (RetLs r W)) := by
  obtain ⟨r, hr⟩ := large_ex hok trap s
  have hri : (∀ x ∈ r, I64 x) ∧ r.length ≤ maxLen := by
    have h := hr
    unfold LargeL at h
    split at h
    · obtain ⟨v, _, rfl⟩ := h
      exact ⟨listN_i64 v, by have := listN_len v; unfold maxLen; omega⟩
    · rw [h]; simp
  refine ⟨r, hri.2, fun W h1 h2 hE => (largest_any n A c T B d s trap W hl h1 hs h2 hok hE).mono ?_, fun W h1 h2 => (largest_r n A c T B d s trap W hl h1 hs h2 hok).mono ?_⟩
  · rintro e w' ⟨A', c', r', rfl, h3, h4, h5⟩
    obtain rfl := hr.uniq h3
    obtain ⟨A9, c9, e9, _, _, g3⟩ := h4.slr hri.1
    injection e9 with e1 _ e2
    subst e1 e2
    exact ⟨_, _, rfl, g3, h5⟩
  · rintro e w' ⟨A', c', r', rfl, h3, _, h4, h5⟩
    obtain rfl := hr.uniq h3
    exact ⟨_, _, rfl, h4, h5⟩
end Go.Proofs.YteljfpcmpdpehaaGreatDoor
