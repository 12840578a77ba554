
/- Petri, plain: the minimal siphons; the laws of PetriStuck and PetriLeast. -/
import Derived.Test.YtbbogflibekgfaaDoorPetKp
import Derived.Test.YtbbogflibekgfaaDoorPetSp
import Derived.Test.YtbbogflibekgfaaDoorPetM
set_option linter.unusedSimpArgs false
set_option linter.unusedVariables false
namespace Go.Proofs.YtbbogflibekgfaaDoor
open Go.RowKit Go.IntWalk

theorem clr_sub {f w : Nat} (hf : f < 2 ^ 64) (hw : w < 2 ^ 64) : clr f w = 0 ↔ sub f w := by
  constructor
  · intro h i hi
    have := congrArg (fun x => x.testBit i) h
    simp only [clr_bit hf hw, Nat.zero_testBit, hi, Bool.true_and, Bool.not_eq_false'] at this
    exact this
  · intro h
    refine Nat.eq_of_testBit_eq fun i => ?_
    rw [clr_bit hf hw, Nat.zero_testBit]
    cases hi : f.testBit i with
    | false => rfl
    | true => rw [h i hi]; rfl
theorem minS_sub (l : List Ed) (F : List Nat) (w : Nat) : ∀ f ∈ F, f ∈ minS l F w := fun f hf => by
  unfold minS
  split
  · exact hf
  · exact List.mem_append_left _ hf
theorem fold_sub (l : List Ed) : ∀ (ws F : List Nat), ∀ f ∈ F, f ∈ ws.foldl (minS l) F
  | [], F, f, hf => hf
  | w :: ws, F, f, hf => fold_sub l ws _ f (minS_sub l F w f hf)
/-- What the minimal ones are, behind each word. -/
structure MinI (l : List Ed) (ws F : List Nat) : Prop where
  cl : ∀ f ∈ F, closedN l f = true
  sl : F.Sublist ws
  ap : F.Pairwise (fun a b => clr a b ≠ 0)
  cov : ∀ w ∈ ws, closedN l w = true → ∃ f ∈ F, clr f w = 0
theorem clr_self (w : Nat) (hw : w < 2 ^ 64) : clr w w = 0 := (clr_sub hw hw).2 (sub_refl w)
theorem minI {l : List Ed} {ws : List Nat} (hlt : ∀ w ∈ ws, w < 2 ^ 64) : ∀ k, k ≤ ws.length → MinI l (ws.take k) (minF l (ws.take k))
  | 0, _ => ⟨fun f hf => by simp [minF] at hf, by simp [minF], by simp [minF], fun w hw => by simp at hw⟩
  | k + 1, hk => by
    have ih := minI (l := l) hlt k (by omega)
    have hkl : k < ws.length := by omega
    rw [minF_succ l ws k hkl]
    have htk : ws.take (k + 1) = ws.take k ++ [ws[k]] := by rw [List.take_add_one, List.getElem?_eq_getElem hkl]; rfl
    rw [htk]
    have hw := hlt _ (List.getElem_mem hkl)
    generalize ws[k] = w at *
    generalize minF l (ws.take k) = F at *
    unfold minS
    by_cases h1 : F.any (fun f => decide (clr f w = 0)) = true
    · rw [if_pos (by rw [h1]; rfl)]
      refine ⟨ih.cl, ih.sl.trans (List.sublist_append_left _ _), ih.ap, fun x hx hc => ?_⟩
      rcases List.mem_append.1 hx with hx | hx
      · exact ih.cov x hx hc
      · rw [List.mem_singleton] at hx
        subst hx
        obtain ⟨f, hf, hq⟩ := List.any_eq_true.1 h1
        exact ⟨f, hf, of_decide_eq_true hq⟩
    · by_cases h2 : closedN l w = true
      · have h1f := h1
        simp only [Bool.not_eq_true] at h1
        rw [if_neg (by rw [h1, h2]; decide)]
        refine ⟨fun f hf => ?_, ih.sl.append (List.Sublist.refl _), ?_, fun x hx hc => ?_⟩
        · rcases List.mem_append.1 hf with hf | hf
          · exact ih.cl f hf
          · rw [List.mem_singleton] at hf; subst hf; exact h2
        · refine List.pairwise_append.2 ⟨ih.ap, List.pairwise_singleton _ _, fun a ha b hb => ?_⟩
          rw [List.mem_singleton] at hb
          subst hb
          have := List.any_eq_false.1 h1 a ha
          simpa using this
        · rcases List.mem_append.1 hx with hx | hx
          · obtain ⟨f, hf, hq⟩ := ih.cov x hx hc
            exact ⟨f, List.mem_append_left _ hf, hq⟩
          · rw [List.mem_singleton] at hx
            subst hx
            exact ⟨x, List.mem_append_right _ (List.mem_singleton.2 rfl), clr_self x hw⟩
      · simp only [Bool.not_eq_true] at h2
        rw [if_pos (by rw [h2]; simp)]
        refine ⟨ih.cl, ih.sl.trans (List.sublist_append_left _ _), ih.ap, fun x hx hc => ?_⟩
        rcases List.mem_append.1 hx with hx | hx
        · exact ih.cov x hx hc
        · rw [List.mem_singleton] at hx
          subst hx
          rw [hc] at h2
          cases h2
theorem minAll {l : List Ed} {ws : List Nat} (hlt : ∀ w ∈ ws, w < 2 ^ 64) : MinI l ws (minF l ws) := by
  have := minI (l := l) hlt ws.length (Nat.le_refl _)
  rwa [List.take_length] at this
theorem words_lt {N : Nat} {ws : List Nat} (h : WordsR N ws) : ∀ w ∈ ws, 1 ≤ w ∧ w < 2 ^ N := fun w hw => by
  have := h.perm.mem_iff.1 hw
  rw [List.mem_range'_1] at this
  have := Nat.two_pow_pos N
  omega
theorem words_mem {N : Nat} {ws : List Nat} (h : WordsR N ws) {w : Nat} (h1 : w ≠ 0) (h2 : w < 2 ^ N) : w ∈ ws := by
  refine h.perm.mem_iff.2 (List.mem_range'_1.2 ?_)
  have := Nat.two_pow_pos N
  omega
theorem cmpK_len {a b : Nat} (h : 0 ≤ cmpK b a) : (listN a).length ≤ (listN b).length := by
  rw [cmpK_or] at h
  unfold cmpI at h
  by_cases h1 : ((listN b).length : Int) < (listN a).length
  · simp [h1] at h
  · omega
/-- The minimal siphons, as the law reads them. -/
structure LeastR (N : Nat) (T : List Tr) (S : List Nat) : Prop where
  len : S.length ≤ 2 ^ N
  lt : ∀ f ∈ S, f < 2 ^ N ∧ f ≠ 0
  is : ∀ f ∈ S, isN N T false (listN f) = true
  asc : S.Pairwise (fun a b => (listN a).length ≤ (listN b).length)
  ap1 : S.Pairwise (fun a b => withinN (listN a) (listN b) = false)
  ap2 : S.Pairwise (fun a b => withinN (listN b) (listN a) = false)
  cov : ∀ w, w < 2 ^ N → closedN (edgesN ((N : Int), T) false) w = true → ∃ f ∈ S, sub f w
theorem within_iff {x y : Nat} : withinN (listN x) (listN y) = true ↔ ∀ i : Nat, i < 64 → x.testBit i = true → y.testBit i = true := by
  rw [within_mem]
  constructor
  · intro h i hi hx
    have := list_mem.1 (h (i : Int) (list_mem.2 ⟨by omega, by omega, by simpa using hx⟩))
    simpa using this.2.2
  · intro h p hp
    obtain ⟨a, b, c⟩ := list_mem.1 hp
    exact list_mem.2 ⟨a, b, h _ (by omega) c⟩
theorem within_sub' {x y : Nat} (hx : x < 2 ^ 64) (h : withinN (listN x) (listN y) = true) : sub x y := fun i hi => within_iff.1 h i (bit_lt hx hi) hi
theorem sub_len {x y : Nat} (hx : x < 2 ^ 64) (hy : y < 2 ^ 64) (h : sub x y) (hl : (listN y).length ≤ (listN x).length) : x = y := by
  have hs : ∀ p ∈ listN x, p ∈ listN y := fun p hp => by
    obtain ⟨a, b, c⟩ := list_mem.1 hp
    exact list_mem.2 ⟨a, b, h _ c⟩
  have hsl : (listN x).Sublist (listN y) := by
    have nx : (listN x).Nodup := (list_pw x).imp (fun {a b} h => by omega)
    have ny : (listN y).Nodup := (list_pw y).imp (fun {a b} h => by omega)
    have e : (listN y).filter (fun p => decide (p ∈ listN x)) = listN x := by
      refine asc_ext ((list_pw y).filter _) (list_pw x) fun p => ?_
      rw [List.mem_filter, decide_eq_true_eq]
      exact ⟨fun h => h.2, fun h => ⟨hs p h, h⟩⟩
    rw [← e]
    exact List.filter_sublist
  have := hsl.eq_of_length_le hl
  rw [← word_list hx, ← word_list hy, this]
theorem leastR {N : Nat} {T : List Tr} {ws : List Nat} (hN : N ≤ 64) (h : WordsR N ws) : LeastR N T (minF (edgesN ((N : Int), T) false) ws) := by
  have hN64 : 2 ^ N ≤ 2 ^ 64 := Nat.pow_le_pow_right (by omega) hN
  have hlt : ∀ w ∈ ws, w < 2 ^ 64 := fun w hw => by have := words_lt h w hw; omega
  have hI := minAll (l := edgesN ((N : Int), T) false) hlt
  generalize minF (edgesN ((N : Int), T) false) ws = S at *
  have hmem : ∀ f ∈ S, f ∈ ws := fun f hf => hI.sl.subset hf
  have hfl : ∀ f ∈ S, f < 2 ^ N ∧ f ≠ 0 := fun f hf => by have := words_lt h f (hmem f hf); omega
  have hasc : S.Pairwise (fun a b => (listN a).length ≤ (listN b).length) := (h.sorted.sublist hI.sl).imp (fun {a b} hab => cmpK_len hab)
  have hap1 : S.Pairwise (fun a b => withinN (listN a) (listN b) = false) := hI.ap.imp_of_mem (fun {a b} ha hb hab => by
    cases hq : withinN (listN a) (listN b) with
    | false => rfl
    | true => exact absurd ((clr_sub (hlt a (hmem a ha)) (hlt b (hmem b hb))).2 (within_sub' (hlt a (hmem a ha)) hq)) hab)
  refine ⟨by have h1 := hI.sl.length_le; have h2 := h.perm.length_eq; rw [List.length_range'] at h2; have h3 := Nat.two_pow_pos N; omega, hfl, fun f hf => ?_, hasc, hap1, ?_, fun w hw hc => ?_⟩
  · unfold isN
    rw [list_set (hfl f hf).1, word_list (hlt f (hmem f hf)), hI.cl f hf]
    rfl
  · refine (hasc.and hap1).imp_of_mem (fun {a b} ha hb hab => ?_)
    cases hq : withinN (listN b) (listN a) with
    | false => rfl
    | true =>
      have e := sub_len (hlt b (hmem b hb)) (hlt a (hmem a ha)) (within_sub' (hlt b (hmem b hb)) hq) hab.1
      have h2 := hab.2
      rw [e, within_sub (sub_refl a)] at h2
      cases h2
  · obtain ⟨f, hf, hq⟩ := hI.cov w (words_mem h (closed_parts hc).1 hw) hc
    exact ⟨f, hf, (clr_sub (hlt f (hmem f hf)) (by omega)).1 hq⟩
/-! ### PetriStuck -/
def zeroK (m : List Int) (k : Nat) : List Int := ((List.range k).filter (fun i => decide (m.getD i 0 = 0))).map (fun (i : Nat) => (i : Int))
theorem zeroK_succ (m : List Int) (k : Nat) : zeroK m (k + 1) = if m.getD k 0 = 0 then zeroK m k ++ [(k : Int)] else zeroK m k := by
  unfold zeroK
  rw [List.range_succ, List.filter_append, List.map_append]
  split
  · rename_i h; simp only [List.filter_cons, h, decide_true, if_true]; rfl
  · rename_i h; simp only [List.filter_cons, List.filter_nil, h, decide_false, Bool.false_eq_true, if_false, List.map_nil, List.append_nil]
theorem zeroK_len (m : List Int) (k : Nat) : (zeroK m k).length ≤ k := by
  unfold zeroK
  rw [List.length_map]
  exact Nat.le_trans (List.length_filter_le _ _) (by simp)
theorem zeroK_mem {m : List Int} {k : Nat} {x : Int} : x ∈ zeroK m k ↔ 0 ≤ x ∧ x < k ∧ m.getD x.toNat 0 = 0 := by
  unfold zeroK
  rw [List.mem_map]
  constructor
  · rintro ⟨i, hi, rfl⟩
    rw [List.mem_filter, List.mem_range] at hi
    exact ⟨by omega, by omega, by simpa using hi.2⟩
  · rintro ⟨h0, h1, h2⟩
    exact ⟨x.toNat, List.mem_filter.2 ⟨List.mem_range.2 (by omega), decide_eq_true h2⟩, by omega⟩
theorem zeroK_pw (m : List Int) (k : Nat) : (zeroK m k).Pairwise (· < ·) := by
  unfold zeroK
  exact List.Pairwise.map (R := (· < ·)) _ (fun a b h => by omega) (List.Pairwise.filter _ List.pairwise_lt_range)
theorem stuck_low {N : Nat} {T : List Tr} {m : List Int} (hok : netOK ((N : Int), T) = true) (hmk : markOK ((N : Int), T) m = true) (hlv : (liveK T m T.length).length = 0) {t : Tr} (ht : t ∈ T) : ∃ p ∈ t.1, p ∈ zeroK m N := by
  obtain ⟨k, hk, rfl⟩ := List.getElem_of_mem ht
  have hnil : liveK T m T.length = [] := List.eq_nil_of_length_eq_zero hlv
  have hen : enN T m (k : Nat) = false := by
    cases hq : enN T m (k : Nat) with
    | false => rfl
    | true =>
      have : (k : Int) ∈ liveK T m T.length := by
        unfold liveK
        exact List.mem_map.2 ⟨k, List.mem_filter.2 ⟨List.mem_range.2 hk, hq⟩, rfl⟩
      rw [hnil] at this
      cases this
  have hT : T.getD (k : Int).toNat ([], []) = T[k] := by rw [Int.toNat_natCast, List.getD_eq_getElem?_getD, List.getElem?_eq_getElem hk]; rfl
  unfold enN at hen
  rw [hT] at hen
  have h1 : decide (0 ≤ (k : Int)) = true := decide_eq_true (by omega)
  have h2 : decide ((k : Int) < T.length) = true := decide_eq_true (by omega)
  rw [h1, h2] at hen
  simp only [Bool.true_and, Bool.not_eq_false', List.any_eq_true] at hen
  obtain ⟨p, hp, hq⟩ := hen
  obtain ⟨s1, _⟩ := net_sets hok (List.getElem_mem hk)
  have hpr := setB_mem s1 p hp
  simp only [lowF, decide_eq_true_eq] at hq
  simp only [markOK, Bool.and_eq_true, decide_eq_true_eq, List.all_eq_true] at hmk
  refine ⟨p, hp, zeroK_mem.2 ⟨hpr.1, hpr.2, ?_⟩⟩
  have hpl : p.toNat < m.length := by have := hmk.1; omega
  have := (hmk.2 _ (List.getElem_mem hpl)).1
  rw [List.getD_eq_getElem?_getD, List.getElem?_eq_getElem hpl] at hq ⊢
  simp only [Option.getD_some] at hq ⊢
  omega
structure StuckR (N : Nat) (T : List Tr) (m : List Int) (S : List Nat) : Prop where
  is : isN N T false (zeroK m N) = true
  ex : S.any (fun f => emptyN m (listN f)) = true
theorem stuck_plain {N : Nat} {T : List Tr} {m : List Int} {S : List Nat} (hN : N ≤ 64) (hok : netOK ((N : Int), T) = true) (hmk : markOK ((N : Int), T) m = true) (hT : 0 < T.length) (hlv : (liveK T m T.length).length = 0) (hS : LeastR N T S) : StuckR N T m S := by
  have hset : setB N (zeroK m N) = true := setB_of (zeroK_pw m N) (fun x hx => by have := zeroK_mem.1 hx; omega)
  have hwl : wordN (zeroK m N) < 2 ^ N := word_lt (fun p hp => by have := zeroK_mem.1 hp; omega)
  have hbit : ∀ i : Nat, (wordN (zeroK m N)).testBit i = true ↔ (i : Int) ∈ zeroK m N := fun i => word_mem hset i
  have hcl : closedN (edgesN ((N : Int), T) false) (wordN (zeroK m N)) = true := by
    refine closed_of ?_ fun e he => ?_
    · obtain ⟨p, _, hp⟩ := stuck_low hok hmk hlv (List.getElem_mem (show 0 < T.length from hT))
      have hp0 := zeroK_mem.1 hp
      intro h0
      have := (hbit p.toNat).2 (by rw [show ((p.toNat : Nat) : Int) = p by omega]; exact hp)
      rw [h0, Nat.zero_testBit] at this
      cases this
    · obtain ⟨t, ht, rfl⟩ := List.mem_map.1 he
      obtain ⟨s1, _⟩ := net_sets hok ht
      obtain ⟨p, h1, h2⟩ := stuck_low hok hmk hlv ht
      have hp0 := zeroK_mem.1 h2
      have hne : wordN t.1 &&& wordN (zeroK m N) ≠ 0 := fun hc => and_zero.1 hc p.toNat ⟨(word_mem s1 _).2 (by rw [show ((p.toNat : Nat) : Int) = p by omega]; exact h1), (hbit _).2 (by rw [show ((p.toNat : Nat) : Int) = p by omega]; exact h2)⟩
      simp [hit, hne]
  refine ⟨by unfold isN; rw [hset, hcl]; rfl, ?_⟩
  obtain ⟨f, hf, hs⟩ := hS.cov _ hwl hcl
  refine List.any_eq_true.2 ⟨f, hf, ?_⟩
  unfold emptyN
  rw [List.all_eq_true]
  intro p hp
  obtain ⟨a, b, c⟩ := list_mem.1 hp
  have := (hbit _).1 (hs _ c)
  rw [show ((p.toNat : Nat) : Int) = p by omega] at this
  exact decide_eq_true (zeroK_mem.1 this).2.2
/-! ### PetriLeast -/
theorem least_some {N : Nat} {T : List Tr} {b : Int} {r : List Int} {S : List Nat} (hN : N ≤ 64) (hS : LeastR N T S) (h : LargeL N T false (pickN b N) r) : S.any (fun f => withinN (listN f) (pickN b N)) = decide (0 < r.length) := by
  unfold LargeL at h
  rw [if_pos (pickN_set _ _)] at h
  obtain ⟨v, hv, rfl⟩ := h
  have hN64 : 2 ^ N ≤ 2 ^ 64 := Nat.pow_le_pow_right (by omega) hN
  have hvl : v < 2 ^ N := sub_lt hv.sub (word_lt (fun p hp => by have := pickN_mem.1 hp; omega))
  have hpk : ∀ i : Nat, (wordN (pickN b N)).testBit i = true ↔ (i : Int) ∈ pickN b N := fun i => word_mem (pickN_set b N) i
  have hwi : ∀ f, f < 2 ^ N → (withinN (listN f) (pickN b N) = true ↔ sub f (wordN (pickN b N))) := fun f hf => by
    rw [within_mem]
    constructor
    · intro h i hi
      have := bit_lt (Nat.lt_of_lt_of_le hf hN64) hi
      exact (hpk i).2 (h (i : Int) (list_mem.2 ⟨by omega, by omega, by simpa using hi⟩))
    · intro h p hp
      obtain ⟨a, _, c⟩ := list_mem.1 hp
      have := (hpk _).1 (h _ c)
      rwa [show ((p.toNat : Nat) : Int) = p by omega] at this
  rw [Bool.eq_iff_iff, List.any_eq_true, decide_eq_true_eq]
  constructor
  · rintro ⟨f, hf, hq⟩
    have hfl := hS.lt f hf
    have hi := hS.is f hf
    unfold isN at hi
    rw [list_set hfl.1, word_list (by omega), Bool.true_and] at hi
    have hsv := hv.max f hi ((hwi f hfl.1).1 hq)
    refine List.length_pos_iff.2 fun he => hfl.2 ?_
    refine Nat.eq_of_testBit_eq fun i => ?_
    rw [Nat.zero_testBit]
    cases hb : f.testBit i with
    | false => rfl
    | true =>
      have h1 := hsv i hb
      have h2 := bit_lt (Nat.lt_of_lt_of_le hvl hN64) h1
      have : (i : Int) ∈ listN v := list_mem.2 ⟨by omega, by omega, by simpa using h1⟩
      rw [he] at this
      cases this
  · intro hpos
    have hv0 : v ≠ 0 := fun h0 => by rw [h0, list_zero] at hpos; simp at hpos
    obtain ⟨f, hf, hs⟩ := hS.cov v hvl (hv.cl.resolve_left hv0)
    exact ⟨f, hf, (hwi f (hS.lt f hf).1).2 (sub_trans hs hv.sub)⟩
end Go.Proofs.YtbbogflibekgfaaDoor
