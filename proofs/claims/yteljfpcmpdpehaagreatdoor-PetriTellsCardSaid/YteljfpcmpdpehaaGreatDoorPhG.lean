
/- Petri, the reference: Fire. -/
import Derived.Test.YteljfpcmpdpehaaGreatDoorPhF
import Derived.Test.YteljfpcmpdpehaaGreatDoorPhE
set_option linter.unusedSimpArgs false
set_option linter.unusedVariables false
namespace Go.Proofs.YteljfpcmpdpehaaGreatDoor
open Go.RowKit Go.IntWalk

theorem closed_pos {E : List Ed} {w : Nat} (h : closedN E w = true) : w ≠ 0 := (closed_parts h).1
theorem cmpK_self (a : Nat) : cmpK a a = 0 := cmpL_self _
theorem cmpK_neg (a b : Nat) : cmpK b a = - cmpK a b := cmpL_neg _ _
/-- Closed, and no other closed one within. -/
def MinC (E : List Ed) (N w : Nat) : Prop := w < 2 ^ N ∧ closedN E w = true ∧ ∀ x, x < 2 ^ N → closedN E x = true → sub x w → x = w
structure MinW (E : List Ed) (N : Nat) (F : List Nat) : Prop where
  mem : ∀ w, w ∈ F ↔ MinC E N w
  sorted : F.Pairwise (fun a b => cmpK a b < 0)
theorem MinW.uniq {E : List Ed} {N : Nat} {F G : List Nat} (h : MinW E N F) (k : MinW E N G) : F = G := by
  have nd : ∀ {F : List Nat}, F.Pairwise (fun a b => cmpK a b < 0) → F.Nodup := fun hs => hs.imp (fun {a b} h e => by subst e; rw [cmpK_self] at h; omega)
  refine List.Perm.eq_of_pairwise (fun a b _ _ h1 h2 => ?_) h.sorted k.sorted ((List.perm_ext_iff_of_nodup (nd h.sorted) (nd k.sorted)).2 fun w => (h.mem w).trans (k.mem w).symm)
  rw [cmpK_neg] at h2
  omega
theorem two64 {N w : Nat} (hN : N ≤ 64) (h : w < 2 ^ N) : w < 2 ^ 64 := Nat.lt_of_lt_of_le h (Nat.pow_le_pow_right (by omega) hN)
theorem pair_or {R : Nat → Nat → Prop} {F : List Nat} (h : F.Pairwise R) {a b : Nat} (ha : a ∈ F) (hb : b ∈ F) (hne : a ≠ b) : R a b ∨ R b a := by
  obtain ⟨i, hi, rfl⟩ := List.getElem_of_mem ha
  obtain ⟨j, hj, rfl⟩ := List.getElem_of_mem hb
  by_cases h1 : i < j
  · exact .inl (List.pairwise_iff_getElem.1 h i j hi hj h1)
  · by_cases h2 : j < i
    · exact .inr (List.pairwise_iff_getElem.1 h j i hj hi h2)
    · exfalso; apply hne; congr 1; omega
theorem minF_minW {N : Nat} {E : List Ed} {ws : List Nat} (hN : N ≤ 64) (h : WordsR N ws) : MinW E N (minF E ws) := by
  have hlt : ∀ w ∈ ws, w < 2 ^ 64 := fun w hw => two64 hN (words_lt h w hw).2
  have I := minAll (l := E) hlt
  have hin : ∀ w ∈ minF E ws, w ∈ ws := fun w hw => I.sl.subset hw
  have anti : ∀ f ∈ minF E ws, ∀ g ∈ minF E ws, sub g f → g = f := by
    intro f hf g hg hs
    by_cases hne : g = f
    · exact hne
    · rcases pair_or I.ap hg hf hne with h1 | h1
      · exact absurd ((clr_sub (hlt g (hin g hg)) (hlt f (hin f hf))).2 hs) h1
      · have hlen : (listN f).length ≤ (listN g).length := by
          have hsort := h.sorted.sublist I.sl
          rcases pair_or (hsort.and I.ap) hg hf hne with ⟨h2, h3⟩ | ⟨h2, h3⟩
          · exact absurd ((clr_sub (hlt g (hin g hg)) (hlt f (hin f hf))).2 hs) h3
          · exact cmpK_len h2
        exact sub_len (hlt g (hin g hg)) (hlt f (hin f hf)) hs hlen
  refine ⟨fun w => ⟨fun hw => ⟨(words_lt h w (hin w hw)).2, I.cl w hw, fun x hx hc hs => ?_⟩, fun ⟨h1, h2, h3⟩ => ?_⟩, ?_⟩
  · obtain ⟨g, hg, hz⟩ := I.cov x (words_mem h (closed_pos hc) hx) hc
    have hgx := (clr_sub (hlt g (hin g hg)) (two64 hN hx)).1 hz
    have := anti w hw g hg (sub_trans hgx hs)
    subst this
    exact sub_antisymm hs hgx
  · obtain ⟨g, hg, hz⟩ := I.cov w (words_mem h (closed_pos h2) h1) h2
    have hgx := (clr_sub (hlt g (hin g hg)) (two64 hN h1)).1 hz
    have := h3 g (words_lt h g (hin g hg)).2 (I.cl g hg) hgx
    exact this ▸ hg
  · have nd : ws.Nodup := h.perm.nodup_iff.2 List.nodup_range'
    have := (h.sorted.and nd).sublist I.sl
    refine this.imp_of_mem (fun {a b} ha hb ⟨h1, h2⟩ => ?_)
    rw [cmpK_neg] at h1
    by_cases h0 : cmpK a b = 0
    · exact absurd (cmpK_anti (hlt a (hin a ha)) (hlt b (hin b hb)) (by rw [cmpK_neg]; omega) (by omega)) h2
    · omega
/-! ### The reference's rounds -/
structure RefW (E : List Ed) (N k : Nat) (F : List Nat) : Prop where
  mem : ∀ w, w ∈ F ↔ MinC E N w ∧ (listN w).length ≤ k
  sorted : F.Pairwise (fun a b => cmpK a b < 0)
  cov : ∀ x, x < 2 ^ N → closedN E x = true → (listN x).length ≤ k → ∃ o ∈ F, sub o x
structure FoundW (E : List Ed) (N k b : Nat) (F G : List Nat) : Prop where
  mem : ∀ w, w ∈ G ↔ w < b ∧ (listN w).length = k ∧ closedN E w = true ∧ ∀ o ∈ F, ¬ sub o w
  sorted : G.Pairwise (fun a b => cmpL (listN a) (listN b) < 0)
theorem word_len0 {w : Nat} (hw : w < 2 ^ 64) (h : (listN w).length = 0) : w = 0 := by
  have := word_list hw
  rw [List.eq_nil_of_length_eq_zero h] at this
  exact this.symm
theorem RefW.zero {E : List Ed} {N : Nat} (hN : N ≤ 64) : RefW E N 0 [] := by
  have hz : ∀ w, w < 2 ^ N → closedN E w = true → ¬ (listN w).length ≤ 0 := fun w h1 h2 h3 => closed_pos h2 (word_len0 (two64 hN h1) (by omega))
  exact ⟨fun w => ⟨fun h => by simp at h, fun ⟨h1, h2⟩ => absurd h2 (hz w h1.1 h1.2.1)⟩, by simp, fun x h1 h2 h3 => absurd h3 (hz x h1 h2)⟩
theorem FoundW.zero {E : List Ed} {N k : Nat} {F : List Nat} : FoundW E N k 1 F [] :=
  ⟨fun w => ⟨fun h => by simp at h, fun ⟨h1, _, h2, _⟩ => absurd (show w = 0 by omega) (closed_pos h2)⟩, by simp⟩
theorem subw_lt {x w : Nat} (hx : x < 2 ^ 64) (hw : w < 2 ^ 64) (h : sub x w) (hne : x ≠ w) : (listN x).length < (listN w).length := by
  by_cases hl : (listN w).length ≤ (listN x).length
  · exact absurd (sub_len hx hw h hl) hne
  · omega
theorem cmpK_lt_len {a b : Nat} (h : (listN a).length < (listN b).length) : cmpK a b < 0 := by
  rw [cmpK_or]
  have : cmpI (listN a).length (listN b).length = -1 := by unfold cmpI; rw [if_pos (by omega)]
  rw [this, if_neg (by omega)]
  omega
theorem cmpK_eq_len {a b : Nat} (h : (listN a).length = (listN b).length) : cmpK a b = cmpL (listN a) (listN b) := by
  rw [cmpK_or]
  have : cmpI (listN a).length (listN b).length = 0 := by unfold cmpI; rw [h]; simp
  rw [this, if_pos rfl]
theorem RefW.next {E : List Ed} {N k : Nat} {F G : List Nat} (hN : N ≤ 64) (h : RefW E N k F) (g : FoundW E N (k + 1) (2 ^ N) F G) : RefW E N (k + 1) (F ++ G) := by
  refine ⟨fun w => ?_, ?_, fun x h1 h2 h3 => ?_⟩
  · rw [List.mem_append, h.mem, g.mem]
    constructor
    · rintro (⟨h1, h2⟩ | ⟨h1, h2, h3, h4⟩)
      · exact ⟨h1, by omega⟩
      · refine ⟨⟨h1, h3, fun x hx hc hs => ?_⟩, by omega⟩
        by_cases hne : x = w
        · exact hne
        · have := subw_lt (two64 hN hx) (two64 hN h1) hs hne
          obtain ⟨o, ho, hos⟩ := h.cov x hx hc (by omega)
          exact absurd (sub_trans hos hs) (h4 o ho)
    · rintro ⟨h1, h2⟩
      by_cases hk : (listN w).length ≤ k
      · exact .inl ⟨h1, hk⟩
      · refine .inr ⟨h1.1, by omega, h1.2.1, fun o ho hs => ?_⟩
        obtain ⟨h3, h4⟩ := (h.mem o).1 ho
        have := h1.2.2 o h3.1 h3.2.1 hs
        subst this
        exact hk h4
  · rw [List.pairwise_append]
    refine ⟨h.sorted, g.sorted.imp_of_mem (fun {a b} ha hb hh => ?_), fun a ha b hb => ?_⟩
    · have h1 := ((g.mem a).1 ha).2.1
      have h2 := ((g.mem b).1 hb).2.1
      rw [cmpK_eq_len (by omega)]; exact hh
    · have h1 := ((h.mem a).1 ha).2
      have h2 := ((g.mem b).1 hb).2.1
      exact cmpK_lt_len (by omega)
  · by_cases hk : (listN x).length ≤ k
    · obtain ⟨o, ho, hs⟩ := h.cov x h1 h2 hk
      exact ⟨o, List.mem_append_left _ ho, hs⟩
    · by_cases hex : ∃ o ∈ F, sub o x
      · obtain ⟨o, ho, hs⟩ := hex
        exact ⟨o, List.mem_append_left _ ho, hs⟩
      · refine ⟨x, List.mem_append_right _ ((g.mem x).2 ⟨h1, by omega, h2, fun o ho hs => hex ⟨o, ho, hs⟩⟩), sub_refl x⟩
theorem listN_len_le {N w : Nat} (hN : N ≤ 64) (h : w < 2 ^ N) : (listN w).length ≤ N := by
  have hs : setB N (listN w) = true := setB_of (list_pw w) (fun x hx => by
    obtain ⟨a, b, c⟩ := list_mem.1 hx
    refine ⟨a, ?_⟩
    by_cases hn : x.toNat < N
    · omega
    · have := Nat.testBit_lt_two_pow (x := w) (i := x.toNat) (Nat.lt_of_lt_of_le h (Nat.pow_le_pow_right (by omega) (by omega)))
      rw [this] at c; cases c)
  have := setB_len hs (by omega)
  omega
theorem RefW.all {E : List Ed} {N : Nat} {F : List Nat} (hN : N ≤ 64) (h : RefW E N N F) : MinW E N F :=
  ⟨fun w => (h.mem w).trans ⟨fun h => h.1, fun hm => ⟨hm, listN_len_le hN hm.1⟩⟩, h.sorted⟩
/-- A word that is no siphon of this size, or holds an earlier one: nothing. -/
theorem FoundW.skip {E : List Ed} {N k b : Nat} {F G : List Nat} (g : FoundW E N k b F G) (h : (listN b).length ≠ k ∨ closedN E b = false ∨ ∃ o ∈ F, sub o b) : FoundW E N k (b + 1) F G := by
  refine ⟨fun w => (g.mem w).trans ⟨fun ⟨h1, h2⟩ => ⟨by omega, h2⟩, fun ⟨h1, h2, h3, h4⟩ => ⟨?_, h2, h3, h4⟩⟩, g.sorted⟩
  by_cases he : w = b
  · exfalso
    subst he
    rcases h with h | h | ⟨o, ho, hs⟩
    · exact h h2
    · rw [h] at h3; cases h3
    · exact h4 o ho hs
  · omega
/-- .. and one that counts is put in its place. -/
theorem FoundW.put {E : List Ed} {N k b at_ : Nat} {F G : List Nat} (hb : b < 2 ^ 64) (g : FoundW E N k b F G) (h1 : (listN b).length = k) (h2 : closedN E b = true) (h3 : ∀ o ∈ F, ¬ sub o b)
    (hat : at_ ≤ G.length) (hlo : ∀ i (hi : i < at_), cmpL (listN (G[i]'(by omega))) (listN b) < 0) (hhi : ∀ hi : at_ < G.length, ¬ cmpL (listN G[at_]) (listN b) < 0) : FoundW E N k (b + 1) F (G.take at_ ++ [b] ++ G.drop at_) := by
  have hle : ∀ x ∈ G, x < b := fun x hx => ((g.mem x).1 hx).1
  have hne : ∀ x ∈ G, cmpL (listN x) (listN b) ≠ 0 := fun x hx h0 => by
    have := cmpL_zero h0
    have hx2 := hle x hx
    have := congrArg wordN this
    rw [word_list (by omega), word_list hb] at this
    omega
  have hdrop : ∀ x ∈ G.drop at_, cmpL (listN b) (listN x) < 0 := by
    intro x hx
    obtain ⟨i, hi, rfl⟩ := List.getElem_of_mem hx
    rw [List.length_drop] at hi
    rw [List.getElem_drop]
    have h0 : at_ < G.length := by omega
    have ha := hhi h0
    have hn := hne G[at_] (List.getElem_mem h0)
    have hba : cmpL (listN b) (listN G[at_]) < 0 := by rw [cmpL_neg]; omega
    by_cases hi0 : i = 0
    · subst hi0; simpa using hba
    · have := List.pairwise_iff_getElem.1 g.sorted at_ (at_ + i) h0 (by omega) (by omega)
      exact cmpL_trans hba this
  have htake : ∀ x ∈ G.take at_, cmpL (listN x) (listN b) < 0 := by
    intro x hx
    obtain ⟨i, hi, rfl⟩ := List.getElem_of_mem hx
    rw [List.length_take] at hi
    rw [List.getElem_take]
    exact hlo i (by omega)
  refine ⟨fun w => ?_, ?_⟩
  · have e : w ∈ G.take at_ ++ [b] ++ G.drop at_ ↔ w ∈ G ∨ w = b := by
      conv => rhs; rw [← List.take_append_drop at_ G]
      simp only [List.mem_append, List.mem_singleton]
      constructor
      · rintro ((h | h) | h)
        · exact .inl (.inl h)
        · exact .inr h
        · exact .inl (.inr h)
      · rintro ((h | h) | h)
        · exact .inl (.inl h)
        · exact .inr h
        · exact .inl (.inr h)
    rw [e, g.mem]
    constructor
    · rintro (⟨u1, u2⟩ | rfl)
      · exact ⟨by omega, u2⟩
      · exact ⟨by omega, h1, h2, h3⟩
    · rintro ⟨u1, u2⟩
      by_cases he : w = b
      · exact .inr he
      · exact .inl ⟨by omega, u2⟩
  · rw [List.pairwise_append, List.pairwise_append]
    refine ⟨⟨g.sorted.sublist (List.take_sublist _ _), by simp, fun x hx y hy => ?_⟩, g.sorted.sublist (List.drop_sublist _ _), fun x hx y hy => ?_⟩
    · simp at hy; subst hy; exact htake x hx
    · rcases List.mem_append.1 hx with hx | hx
      · exact cmpL_trans (htake x hx) (hdrop y hy)
      · simp at hx; subst hx; exact hdrop y hy
theorem without_sub {o w : Nat} (ho : o < 2 ^ 64) : withoutN (listN o) (listN w) = [] ↔ sub o w := by
  constructor
  · intro h i hi
    have h64 := bit_lt ho hi
    have hm : (i : Int) ∈ listN o := list_mem.2 ⟨by omega, by omega, by simpa using hi⟩
    have : (i : Int) ∉ withoutN (listN o) (listN w) := by rw [h]; simp
    rw [withoutN_mem] at this
    have hw : (i : Int) ∈ listN w := Classical.not_not.1 fun hn => this ⟨hm, hn⟩
    have := (list_mem.1 hw).2.2
    simpa using this
  · intro h
    rw [List.eq_nil_iff_forall_not_mem]
    intro x hx
    obtain ⟨h1, h2⟩ := withoutN_mem.1 hx
    obtain ⟨a, b, c⟩ := list_mem.1 h1
    exact h2 (list_mem.2 ⟨a, b, h _ c⟩)
def beforeN : List Int → List Int → Bool
  | x :: a, y :: b => if x = y then beforeN a b else decide (x < y)
  | _, _ => false
theorem beforeN_cmp : ∀ (a b : List Int), a.length = b.length → beforeN a b = decide (cmpL a b < 0)
  | [], [], _ => by rw [cmpL_self]; rfl
  | [], _ :: _, h => by simp at h
  | _ :: _, [], h => by simp at h
  | x :: a, y :: b, h => by
    have ih := beforeN_cmp a b (by simpa using h)
    unfold beforeN cmpL
    by_cases hxy : x = y
    · subst hxy; simp [ih]
    · by_cases hlt : x < y
      · simp [hxy, hlt]
      · have : y < x := by omega
        simp [hxy, hlt, this]
theorem beforeN_step {a b : List Int} {k : Nat} (ha : k < a.length) (hb : k < b.length) : beforeN (a.drop k) (b.drop k) = if a[k] = b[k] then beforeN (a.drop (k + 1)) (b.drop (k + 1)) else decide (a[k] < b[k]) := by
  rw [List.drop_eq_getElem_cons ha, List.drop_eq_getElem_cons hb]; rfl
theorem pick_word {N b : Nat} (hN : N ≤ 64) (hb : b < 2 ^ N) : pickN (b : Int) N = listN b := by
  refine asc_ext (pickN_pw _ _) (list_pw b) fun x => ?_
  rw [pickN_mem, list_mem]
  have hbit : ∀ i : Nat, bitI (b : Int) i = b.testBit i := by
    intro i
    unfold bitI
    rw [Nat.testBit_eq_decide_div_mod_eq]
    have : ((b : Int) / 2 ^ i % 2) = ((b / 2 ^ i % 2 : Nat) : Int) := by simp
    rw [this]
    rw [Bool.eq_iff_iff]
    simp only [decide_eq_true_eq]
    omega
  rw [hbit]
  constructor
  · rintro ⟨a, c, d⟩; exact ⟨a, by omega, d⟩
  · rintro ⟨a, c, d⟩
    refine ⟨a, ?_, d⟩
    by_cases hn : x.toNat < N
    · omega
    · have := Nat.testBit_lt_two_pow (x := b) (i := x.toNat) (Nat.lt_of_lt_of_le hb (Nat.pow_le_pow_right (by omega) (by omega)))
      rw [this] at d; cases d
theorem closed_isN {N b : Nat} {T : List Tr} (hN : N ≤ 64) (hb : b < 2 ^ N) : isN (N : Int) T false (listN b) = closedN (edgesN ((N : Int), T) false) b := by
  have hs : setB N (listN b) = true := by rw [← pick_word hN hb]; exact pickN_set _ _
  unfold isN
  rw [hs, word_list (two64 hN hb), Bool.true_and]
end Go.Proofs.YteljfpcmpdpehaaGreatDoor
namespace Go.Proofs.YteljfpcmpdpehaaGreatDoor
open Go.RowKit Go.IntWalk

/-- The places of a transition that would be too full. -/
def tooFull (m1 : List Int) (p : Int) : Bool := decide (1099511627776 < m1.getD p.toNat 0 + 1)
theorem addN_at (d : Int) {n : Int} {s m : List Int} (hs : setB n s = true) (hm : (m.length : Int) = n) (k : Nat) (hk : k < s.length) : (addN d m (s.take (k + 1))).getD s[k].toNat 0 = m.getD s[k].toNat 0 + d := by
  have hmem := fun p hp => setB_mem hs p hp
  have h1 := addN_get d (s.take (k + 1)) m ((setB_pw hs).sublist (List.take_sublist _ _)) (fun p hp => by have := hmem p (List.mem_of_mem_take hp); omega) s[k].toNat
  rw [h1]
  have h0 := hmem s[k] (List.getElem_mem hk)
  have : ((s[k].toNat : Nat) : Int) ∈ s.take (k + 1) := by
    rw [show ((s[k].toNat : Nat) : Int) = s[k] by omega, List.take_add_one, List.getElem?_eq_getElem hk]
    exact List.mem_append_right _ (by simp only [Option.toList_some, List.mem_singleton])
  rw [if_pos this]
theorem fire_mark {n : Int} {T : List Tr} {m : List Int} (hok : netOK (n, T) = true) (hmk : markOK (n, T) m = true) {t : Tr} (ht : t ∈ T) (hen : t.1.any (lowF m) = false) :
    markOK (n, T) (addN 1 (addN (-1) m t.1) t.2) = !t.2.any (tooFull (addN (-1) m t.1)) := by
  simp only [netOK, Bool.and_eq_true, List.all_eq_true, decide_eq_true_eq] at hok
  obtain ⟨⟨⟨h0, h64⟩, _⟩, hall⟩ := hok
  obtain ⟨s1, s2⟩ := hall t ht
  simp only [markOK, Bool.and_eq_true, List.all_eq_true, decide_eq_true_eq] at hmk
  obtain ⟨hlen, hm⟩ := hmk
  have g1 := addN_get (-1) t.1 m (setB_pw s1) (fun p hp => by have := setB_mem s1 p hp; omega)
  have l1 := addN_len (-1) t.1 m
  have g2 := addN_get 1 t.2 (addN (-1) m t.1) (setB_pw s2) (fun p hp => by have := setB_mem s2 p hp; omega)
  have l2 := addN_len 1 t.2 (addN (-1) m t.1)
  generalize hM1 : addN (-1) m t.1 = m1 at *
  generalize addN 1 m1 t.2 = m2 at *
  have hmi : ∀ i : Nat, i < m.length → 0 ≤ m.getD i 0 ∧ m.getD i 0 ≤ 1099511627776 := fun i hi => by
    rw [List.getD_eq_getElem?_getD, List.getElem?_eq_getElem hi]
    exact hm _ (List.getElem_mem hi)
  have hlow : ∀ i : Nat, (i : Int) ∈ t.1 → 1 ≤ m.getD i 0 := fun i hi => by
    have := List.any_eq_false.1 hen _ hi
    unfold lowF at this
    simp only [Int.toNat_natCast, decide_eq_true_eq] at this
    omega
  rw [markOK, Bool.eq_iff_iff]
  simp only [Bool.and_eq_true, List.all_eq_true, decide_eq_true_eq, Bool.not_eq_true', List.any_eq_false]
  constructor
  · rintro ⟨-, h⟩ p hp hbad
    have hr := setB_mem s2 p hp
    have hi : p.toNat < m2.length := by omega
    have := h _ (List.getElem_mem hi)
    have e : m2.getD p.toNat 0 = m2[p.toNat] := by rw [List.getD_eq_getElem?_getD, List.getElem?_eq_getElem hi]; rfl
    rw [← e, g2, if_pos (by rw [show ((p.toNat : Nat) : Int) = p by omega]; exact hp)] at this
    unfold tooFull at hbad
    have := of_decide_eq_true hbad
    omega
  · intro h
    refine ⟨by omega, fun x hx => ?_⟩
    obtain ⟨i, hi, rfl⟩ := List.getElem_of_mem hx
    have e : m2.getD i 0 = m2[i] := by rw [List.getD_eq_getElem?_getD, List.getElem?_eq_getElem hi]; rfl
    rw [← e, g2, g1]
    have h3 := hmi i (by omega)
    by_cases h4 : (i : Int) ∈ t.2
    · have h5 := h _ h4
      unfold tooFull at h5
      simp only [Int.toNat_natCast, decide_eq_true_eq] at h5
      rw [g1] at h5
      rw [if_pos h4]
      by_cases h6 : (i : Int) ∈ t.1
      · have := hlow i h6
        rw [if_pos h6] at h5 ⊢
        omega
      · rw [if_neg h6] at h5 ⊢
        omega
    · rw [if_neg h4]
      by_cases h6 : (i : Int) ∈ t.1
      · have := hlow i h6
        rw [if_pos h6]
        omega
      · rw [if_neg h6]
        omega
end Go.Proofs.YteljfpcmpdpehaaGreatDoor
namespace Go.Proofs.YteljfpcmpdpehaaGreatDoor
open Go.RowKit Go.IntWalk Go.Shelf

set_option maxRecDepth 100000 in
set_option maxHeartbeats 2000000 in
theorem live_r (n : Int) (A : Option Addr) (c : Nat) (T : List Tr) (B : Option Addr) (d : Nat) (m : List Int) (w : World) (hl : T.length ≤ 5000) (h : SlR w w.heap.size A T) (hm : m.length ≤ maxLen) (hM : SlR w w.heap.size B m)
    (hn : n = m.length) (hok : netOK (n, T) = true) :
    Calls Tryz.prog 31 #[.agg #[.int .i64 n, .slice A T.length c], .slice B m.length d] w fun e w' => ∃ A' c', e = .returned (.slice A' (liveK T m T.length).length c') ∧ OwnI w' w.heap.size (.slice A' (liveK T m T.length).length c') (liveK T m T.length) ∧ Below w.heap.size w w' := by
  obtain ⟨w1, hw1⟩ : ∃ w1, w1 = (w.alloc (Obj.cells #[.int .i64 n, .slice A T.length c] 24)) := ⟨_, rfl⟩
  have B1 : Below w.heap.size w w1 := by rw [hw1]; (repeat (first | exact Below.refl _ _ | assumption | refine below_drewN ?_ _ | refine Below.drew ?_ | refine Below.alloc ?_ (by (try simp); (try omega)) _ | refine Below.setCell ?_ (by (try simp); (try omega)) _))
  have B11 : Below w1.heap.size w w1 → True := fun _ => trivial
  have x1 : Blk w1 w.heap.size 24 #[.int .i64 n, .slice A T.length c] := by rw [hw1]; exact Blk.new w _ _
  have y0 := x1.cell 0; have y1 := x1.cell 1; have z1 := x1.lt
  simp at y0 y1
  have HB1 := hid B1
  have HEN := hid (fun (t : Int) W (hW : Below w.heap.size w W) => enabled_r n A c T B d m t W (by unfold maxLen; omega) ((h.below hW).more hW.size) hm ((hM.below hW).more hW.size) hn hok)
  clear B1 B11 h hM hn hok
  unfold maxLen at hm
  go_enter Tryz.func31, Tryz.ntmps31
  go_upto_region 1 with fail
  rw [← hw1]
  have X1 := hid x1
  clear hw1 x1
  go_upto_region 3 with fail
  clear y0 y1
  go_loopw [5, 6] (fun v i wr => ∃ (k : Nat) (A9 : Option Addr) (c9 : Nat), k ≤ T.length ∧ i = .int .i64 k ∧ v = .slice A9 (liveK T m k).length c9 ∧ OwnI wr w1.heap.size (.slice A9 (liveK T m k).length c9) (liveK T m k) ∧ Below w1.heap.size w1 wr) (fun _ i _ => T.length - (intOf i).toNat)
  case atStart => exact ⟨0, none, 0, by omega, rfl, rfl, OwnI.nil _ _, Below.refl _ _⟩
  case round =>
    obtain ⟨k, A9, c9, hk, rfl, rfl, ho, hB⟩ := hrel
    have HO := hid ho
    have HB := hid hB
    have HBw := hid (HB1.out.trans (hB.mono HB1.out.size))
    have X1r := X1.out.below hB z1
    have y0 := X1r.cell 0; have y1 := X1r.cell 1; have z1r := X1r.lt
    simp at y0 y1
    by_cases hlt : k < T.length
    · have hlt' : (k : Int) < T.length := by omega
      have HE := hid (HEN.out k wr HBw.out)
      have hsu := hid (liveK_succ T m k)
      have hlk := liveK_len T m k
      clear ho hB X1r
      generalize liveK T m k = L at *
      cases hq : enN T m (k : Nat) with
      | false =>
        rw [hq] at HE hsu
        clear hq
        go_wp2_with (go_at_call 33; refine HE.out.mono ?_; rintro e w5 ⟨rfl, hB5⟩)
        have HB5 := hid (HB.out.trans (hB5.mono HB.out.size))
        have HO5 := hid (HO.out.below hB5)
        clear hB5
        go_wp2_with fail
        go_roundw
        case rel => exact ⟨k + 1, A9, c9, by omega, by go_num, by rw [hsu.out]; simp, by rw [hsu.out]; simpa using HO5.out, HB5.out⟩
        case measure => simp [intOf]; omega
      | true =>
        rw [hq] at HE hsu
        clear hq
        go_upto_region 6 with (go_at_call 33; refine HE.out.mono ?_; rintro e w5 ⟨rfl, hB5⟩)
        have HB5 := hid (HB.out.trans (hB5.mono HB.out.size))
        have HO5 := hid (HO.out.below hB5)
        have hX := hid (Blk.new w5 3 #[.int .i64 (k : Nat)])
        have hcell := hX.out.cell 0
        simp only [List.getElem?_toArray, List.getElem?_cons_zero] at hcell
        have hcl := hid hcell
        have hbase := hid (HB5.out.size)
        clear hB5 hcell
        go_wp2_with (at_builtin; refine wp_appK _ rfl (.tmp 18) (.tmp 20) rfl w1.heap.size (.slice A9 L.length c9) L rfl (HO5.out.alloc _) _ 1 (k : Nat) rfl hcl.out (by omega) (by have := hbase.out; simp; omega) ?_; intro A8 c8 w9 ho9 hg9 hd9)
        have B9 := hid (show Below w1.heap.size w1 w9 from (HB5.out.alloc HB5.out.size _).grown hg9 (by have := hbase.out; simp; omega) (fun g hg => (HO5.out.lt g hg).1))
        have HO9 := hid ho9
        clear ho9 hg9 hd9
        go_wp2_with fail
        go_roundw
        case rel => exact ⟨k + 1, A8, c8, by omega, by go_num, by rw [hsu.out]; simp, by rw [hsu.out]; simpa using HO9.out, B9.out⟩
        case measure => simp [intOf]; omega
    · obtain rfl : k = T.length := by omega
      clear ho hB
      go_wp2_with fail
      go_ret
      exact ⟨A9, c9, rfl, own_base HO.out HB1.out.size, HBw.out⟩
set_option maxRecDepth 100000 in
set_option maxHeartbeats 2000000 in
theorem places_r (b : Int) (n : Nat) (w : World) (hn : n ≤ 64) :
    Calls Tryz.prog 70 #[.int .i64 b, .int .i64 (n : Nat)] w fun e w' => ∃ A' c', e = .returned (.slice A' (pickN b n).length c') ∧ OwnI w' w.heap.size (.slice A' (pickN b n).length c') (pickN b n) ∧ Below w.heap.size w w' := by
  go_enter Tryz.func70, Tryz.ntmps70
  go_upto_region 3 with fail
  go_loopw [5, 6] (fun v i wr => ∃ (k : Nat) (A9 : Option Addr) (c9 : Nat), k ≤ n ∧ i = .int .i64 k ∧ v = .slice A9 (pickN b k).length c9 ∧ OwnI wr w.heap.size (.slice A9 (pickN b k).length c9) (pickN b k) ∧ Below w.heap.size w wr) (fun _ i _ => n - (intOf i).toNat)
  case atStart => exact ⟨0, none, 0, by omega, rfl, rfl, OwnI.nil _ _, Below.refl _ _⟩
  case round =>
    obtain ⟨k, A9, c9, hk, rfl, rfl, ho, hB⟩ := hrel
    have HO := hid ho
    have HB := hid hB
    by_cases hlt : k < n
    · have hlt' : (k : Int) < n := by omega
      have hsu := hid (pickN_succ b k)
      have hlk := pickN_len b k
      have hand := and_one (b / 2 ^ k)
      have hbit := hid (show bitI b k = decide (b / 2 ^ k % 2 = 1) from rfl)
      clear ho hB
      generalize pickN b k = L at *
      by_cases hq : b / 2 ^ k % 2 = 1
      · have hsu2 := hid (show pickN b (k + 1) = L ++ [(k : Int)] by rw [hsu.out, if_pos (by rw [hbit.out]; exact decide_eq_true hq)])
        go_upto_region 6 with fail
        have hX := hid (Blk.new wr 3 #[.int .i64 (k : Nat)])
        have hcell := hX.out.cell 0
        simp only [List.getElem?_toArray, List.getElem?_cons_zero] at hcell
        have hcl := hid hcell
        have hbase := hid (HB.out.size)
        clear hcell hq hand
        go_wp2_with (at_builtin; refine wp_appK _ rfl (.tmp 17) (.tmp 19) rfl w.heap.size (.slice A9 L.length c9) L rfl (HO.out.alloc _) _ 1 (k : Nat) rfl hcl.out (by omega) (by have := hbase.out; simp; omega) ?_; intro A8 c8 w9 ho9 hg9 hd9)
        have B9 := hid (show Below w.heap.size w w9 from (HB.out.alloc HB.out.size _).grown hg9 (by have := hbase.out; simp; omega) (fun g hg => (HO.out.lt g hg).1))
        have HO9 := hid ho9
        clear ho9 hg9 hd9
        go_wp2_with fail
        go_roundw
        case rel => exact ⟨k + 1, A8, c8, by omega, by go_num, by rw [hsu2.out]; simp, by rw [hsu2.out]; simpa using HO9.out, B9.out⟩
        case measure => simp [intOf]; omega
      · have hsu2 := hid (show pickN b (k + 1) = L by rw [hsu.out, if_neg (by rw [hbit.out]; simp [hq])])
        have hq2 : (b / 2 ^ k % 2 == 1) = false := by simp [hq]
        clear hq
        go_wp2_with fail
        go_roundw
        case rel => exact ⟨k + 1, A9, c9, by omega, by go_num, by rw [hsu2.out], by rw [hsu2.out]; exact HO.out, HB.out⟩
        case measure => simp [intOf]; omega
    · obtain rfl : k = n := by omega
      clear ho hB
      go_wp2_with fail
      go_ret
      exact ⟨A9, c9, rfl, HO.out, HB.out⟩
/-! ### without -/
theorem without_take (s l : List Int) (k : Nat) (hk : k < s.length) : withoutN (s.take (k + 1)) l = withoutN (s.take k) l ++ if meetsN [s[k]] l = true then [] else [s[k]] := by
  unfold withoutN
  rw [List.take_add_one, List.getElem?_eq_getElem hk, List.filter_append]
  congr 1
  by_cases h : meetsN [s[k]] l = true
  · rw [if_pos h]; simp [h]
  · rw [if_neg h]; simp [h]
theorem without_len (s l : List Int) : (withoutN s l).length ≤ s.length := List.length_filter_le _ _
set_option maxRecDepth 100000 in
set_option maxHeartbeats 2000000 in
theorem without_r (A B : Option Addr) (c d : Nat) (s l : List Int) (w : World) (hs : s.length ≤ c) (hs2 : s.length ≤ 1000000) (hc : c ≤ maxLen) (hm : l.length ≤ maxLen) (h1 : SlR w w.heap.size A s) (h2 : SlR w w.heap.size B l) :
    Calls Tryz.prog 59 #[.slice A s.length c, .slice B l.length d] w fun e w' => ∃ A' c', e = .returned (.slice A' (withoutN s l).length c') ∧ OwnI w' w.heap.size (.slice A' (withoutN s l).length c') (withoutN s l) ∧ Below w.heap.size w w' := by
  have H2 := hid h2
  have H1 := hid h1
  have hm2 := hid hm
  unfold maxLen at hc hm
  clear h1 h2 hm
  go_enter Tryz.func59, Tryz.ntmps59
  go_upto_region 3 with fail
  go_loopw [5, 6] (fun v i wr => ∃ (k : Nat) (A9 : Option Addr) (c9 : Nat), k ≤ s.length ∧ i = .int .i64 k ∧ v = .slice A9 (withoutN (s.take k) l).length c9 ∧ OwnI wr w.heap.size (.slice A9 (withoutN (s.take k) l).length c9) (withoutN (s.take k) l) ∧ Below w.heap.size w wr) (fun _ i _ => s.length - (intOf i).toNat)
  case atStart => exact ⟨0, none, 0, by omega, rfl, rfl, OwnI.nil _ _, Below.refl _ _⟩
  case round =>
    obtain ⟨k, A9, c9, hk, rfl, rfl, ho, hB⟩ := hrel
    have HO := hid ho
    have HB := hid hB
    clear ho hB
    by_cases hlt : k < s.length
    · have hlt' : (k : Int) < s.length := by omega
      obtain ⟨b1, off, rfl, hb1, g1, _⟩ := (H1.out.below HB.out).int hlt
      have hc1 : k + 1 ≤ c := by omega
      have HME := hid (show Calls Tryz.prog 57 #[.slice (some ⟨b1, off + k, none⟩) 1 (c - k), .slice B l.length d] wr fun e w' => e = .returned (.bool (meetsN [s[k]] l)) ∧ Below wr.heap.size wr w' from
        meets_any (some ⟨b1, off + k, none⟩) B (c - k) d [s[k]] l wr (by simp [maxLen]) hm2.out (((H1.out.one hlt).below HB.out).more HB.out.size) ((H2.out.below HB.out).more HB.out.size))
      have hst := hid (without_take s l k hlt)
      have hlk := without_len (s.take k) l
      rw [List.length_take] at hlk
      generalize withoutN (s.take k) l = L at *
      generalize meetsN [s[k]] l = q at *
      generalize s[k] = x at *
      go_upto_region 5 with fail
      cases q with
      | true =>
        as_aux_lemma =>
          go_wp2_with (go_at_call 57; refine HME.out.mono ?_; rintro e w5 ⟨rfl, hB5⟩)
          have HB5 := hid (HB.out.trans (hB5.mono HB.out.size))
          have HO5 := hid (HO.out.below hB5)
          clear hB5
          go_wp2_with fail
          go_roundw
          case rel => exact ⟨k + 1, A9, c9, by omega, by go_num, by rw [hst.out]; simp, by rw [hst.out]; simpa using HO5.out, HB5.out⟩
          case measure => simp [intOf]; omega
      | false =>
        as_aux_lemma =>
          go_upto_region 6 with (go_at_call 57; refine HME.out.mono ?_; rintro e w5 ⟨rfl, hB5⟩)
          have HB5 := hid (HB.out.trans (hB5.mono HB.out.size))
          have HO5 := hid (HO.out.below hB5)
          have g5 := (bcell hB5 _ _ (show b1 < wr.heap.size by have := HB.out.size; omega)).trans g1
          have hX := hid (Blk.new w5 3 #[.int .i64 x])
          have hcell := hX.out.cell 0
          simp only [List.getElem?_toArray, List.getElem?_cons_zero] at hcell
          have hcl := hid hcell
          have hbase := hid (HB5.out.size)
          clear hB5 hcell
          go_wp2_with (at_builtin; refine wp_appK _ rfl (.tmp 21) (.tmp 26) rfl w.heap.size (.slice A9 L.length c9) L rfl (HO5.out.alloc _) _ 1 x rfl hcl.out (by omega) (by have := hbase.out; simp; omega) ?_; intro A8 c8 w9 ho9 hg9 hd9)
          have B9 := hid (show Below w.heap.size w w9 from (HB5.out.alloc HB5.out.size _).grown hg9 (by have := hbase.out; simp; omega) (fun g hg => (HO5.out.lt g hg).1))
          have HO9 := hid ho9
          clear ho9 hg9 hd9
          go_wp2_with fail
          go_roundw
          case rel => exact ⟨k + 1, A8, c8, by omega, by go_num, by rw [hst.out]; simp, by rw [hst.out]; simpa using HO9.out, B9.out⟩
          case measure => simp [intOf]; omega
    · obtain rfl : k = s.length := by omega
      rw [List.take_length] at HO
      rw [List.take_length]
      go_wp2_with fail
      go_ret
      exact ⟨A9, c9, rfl, HO.out, HB.out⟩
/-! ### before -/
set_option maxRecDepth 100000 in
set_option maxHeartbeats 2000000 in
theorem before_r (A B : Option Addr) (c d : Nat) (a b : List Int) (w : World) (hl : a.length ≤ maxLen) (hm : b.length ≤ maxLen) (h1 : SlR w w.heap.size A a) (h2 : SlR w w.heap.size B b) :
    Calls Tryz.prog 71 #[.slice A a.length c, .slice B b.length d] w fun e w' => e = .returned (.bool (beforeN a b)) ∧ Below w.heap.size w w' := by
  have H2 := hid h2
  have H1 := hid h1
  unfold maxLen at hl hm
  clear h1 h2
  go_enter Tryz.func71, Tryz.ntmps71
  go_upto_region 2 with fail
  go_loopw [5] (fun i wr => ∃ k : Nat, k ≤ a.length ∧ k ≤ b.length ∧ i = .int .i64 k ∧ beforeN a b = beforeN (a.drop k) (b.drop k) ∧ Below w.heap.size w wr) (fun i _ => a.length - (intOf i).toNat)
  case atStart => exact ⟨0, by omega, by omega, rfl, rfl, Below.refl _ _⟩
  case round =>
    obtain ⟨k, hk, hk2, rfl, ha, hB⟩ := hrel
    have HA := hid ha
    have HB := hid hB
    clear ha hB
    by_cases hlt : k < a.length
    · have hlt' : (k : Int) < a.length := by omega
      by_cases hltb : k < b.length
      · have hltb' : (k : Int) < b.length := by omega
        obtain ⟨b1, o1, rfl, hb1, g1, _⟩ := (H1.out.below HB.out).int hlt
        obtain ⟨b2, o2, rfl, hb2, g2, _⟩ := (H2.out.below HB.out).int hltb
        have hst := hid (beforeN_step hlt hltb)
        generalize a[k] = x at *
        generalize b[k] = y at *
        go_upto_region 4 with fail
        have BD := hid HB.out.drew
        refine wpIn_wide.1 (wpIn_region_S (n := 0) (fun wq => wq.cell? ⟨b1, o1 + k, none⟩ = some (.int .i64 x) ∧ wq.cell? ⟨b2, o2 + k, none⟩ = some (.int .i64 y)) [] (by kernel_rfl) ⟨g1, g2⟩ (fun hHeld => ?_))
        have HSF := hid (fun (wq : World) (hq : wq.cell? ⟨b1, o1 + k, none⟩ = some (.int .i64 x) ∧ wq.cell? ⟨b2, o2 + k, none⟩ = some (.int .i64 y)) => hq)
        have g1d : wr.drew.cell? ⟨b1, o1 + k, none⟩ = some (.int .i64 x) := g1
        have g2d : wr.drew.cell? ⟨b2, o2 + k, none⟩ = some (.int .i64 y) := g2
        clear HB g1 g2
        generalize wr.drew = wd at *
        by_cases hxy : x = y
        · have hs2 := hid (show beforeN a b = beforeN (a.drop (k + 1)) (b.drop (k + 1)) by rw [HA.out, hst.out, if_pos hxy])
          have hne : (x == y) = true := by simp [hxy]
          have Hxy := hid hxy
          clear hxy
          as_aux_lemma =>
            refine wpAnyG_pure 0 (v := ?_) (fun _ => trivial) (by simp only [List.getElem?_toArray, List.getElem?_cons_succ, List.getElem?_cons_zero]; rfl) (by kernel_rfl) (fun _ _ _ _ _ h => h) ⟨(by rfl), (by intro c h; cases h), ?_⟩ hHeld ?_
            rotate_left
            focus (intro wS hSw; (try replace hSw := HSF.out wS hSw); (try dsimp only at hSw); go_simp; (try with_reducible rfl))
            (try simp only [Act.put, List.setIfInBounds_toArray, List.set_cons_zero, List.set_cons_succ])
            refine wpAnyG_pure 1 (v := ?_) (fun _ => trivial) (by simp only [List.getElem?_toArray, List.getElem?_cons_succ, List.getElem?_cons_zero]; rfl) (by kernel_rfl) (fun _ _ _ _ _ h => h) ⟨(by rfl), (by intro c h; cases h), ?_⟩ hHeld ?_
            rotate_left
            focus (intro wS hSw; (try replace hSw := HSF.out wS hSw); (try dsimp only at hSw); go_simp; (try with_reducible rfl))
            (try simp only [Act.put, List.setIfInBounds_toArray, List.set_cons_zero, List.set_cons_succ])
            refine wpAnyG_pure 2 (v := ?_) (fun _ => trivial) (by simp only [List.getElem?_toArray, List.getElem?_cons_succ, List.getElem?_cons_zero]; rfl) (by kernel_rfl) (fun _ _ _ _ _ h => h) ⟨(by rfl), (by intro c h; cases h), ?_⟩ hHeld ?_
            rotate_left
            focus (intro wS hSw; (try replace hSw := HSF.out wS hSw); (try dsimp only at hSw); go_simp; (try with_reducible rfl))
            (try simp only [Act.put, List.setIfInBounds_toArray, List.set_cons_zero, List.set_cons_succ])
            refine wpAnyG_take 3 (v := ?_) (fun _ => trivial) (by simp only [List.getElem?_toArray, List.getElem?_cons_succ, List.getElem?_cons_zero]; rfl) (by kernel_rfl) (fun _ _ _ _ _ h => h) ⟨(by rfl), (by intro c h; cases h), ?_⟩ hHeld ?_
            rotate_left
            focus (intro wS hSw; (try replace hSw := HSF.out wS hSw); (try dsimp only at hSw); go_simp; (try with_reducible rfl))
            (try simp only [Act.put, List.setIfInBounds_toArray, List.set_cons_zero, List.set_cons_succ])
            refine wpAnyG_pure 4 (v := ?_) (fun _ => trivial) (by simp only [List.getElem?_toArray, List.getElem?_cons_succ, List.getElem?_cons_zero]; rfl) (by kernel_rfl) (fun _ _ _ _ _ h => h) ⟨(by rfl), (by intro c h; cases h), ?_⟩ hHeld ?_
            rotate_left
            focus (intro wS hSw; (try replace hSw := HSF.out wS hSw); (try dsimp only at hSw); go_simp; (try with_reducible rfl))
            (try simp only [Act.put, List.setIfInBounds_toArray, List.set_cons_zero, List.set_cons_succ])
            refine wpAnyG_pure 5 (v := ?_) (fun _ => trivial) (by simp only [List.getElem?_toArray, List.getElem?_cons_succ, List.getElem?_cons_zero]; rfl) (by kernel_rfl) (fun _ _ _ _ _ h => h) ⟨(by rfl), (by intro c h; cases h), ?_⟩ hHeld ?_
            rotate_left
            focus (intro wS hSw; (try replace hSw := HSF.out wS hSw); (try dsimp only at hSw); go_simp; (try with_reducible rfl))
            (try simp only [Act.put, List.setIfInBounds_toArray, List.set_cons_zero, List.set_cons_succ])
            refine wpAnyG_pure 6 (v := ?_) (fun _ => trivial) (by simp only [List.getElem?_toArray, List.getElem?_cons_succ, List.getElem?_cons_zero]; rfl) (by kernel_rfl) (fun _ _ _ _ _ h => h) ⟨(by rfl), (by intro c h; cases h), ?_⟩ hHeld ?_
            rotate_left
            focus (intro wS hSw; (try replace hSw := HSF.out wS hSw); (try dsimp only at hSw); go_simp; (try with_reducible rfl))
            (try simp only [Act.put, List.setIfInBounds_toArray, List.set_cons_zero, List.set_cons_succ])
            refine wpAnyG_take 7 (v := ?_) (fun _ => trivial) (by simp only [List.getElem?_toArray, List.getElem?_cons_succ, List.getElem?_cons_zero]; rfl) (by kernel_rfl) (fun _ _ _ _ _ h => h) ⟨(by rfl), (by intro c h; cases h), ?_⟩ hHeld ?_
            rotate_left
            focus (intro wS hSw; (try replace hSw := HSF.out wS hSw); (try dsimp only at hSw); go_simp; (try with_reducible rfl))
            (try simp only [Act.put, List.setIfInBounds_toArray, List.set_cons_zero, List.set_cons_succ])
            refine wpAnyG_pure 8 (v := ?_) (fun _ => trivial) (by simp only [List.getElem?_toArray, List.getElem?_cons_succ, List.getElem?_cons_zero]; rfl) (by kernel_rfl) (fun _ _ _ _ _ h => h) ⟨(by rfl), (by intro c h; cases h), ?_⟩ hHeld ?_
            rotate_left
            focus (intro wS hSw; (try replace hSw := HSF.out wS hSw); (try dsimp only at hSw); go_simp; (try with_reducible rfl))
            (try simp only [Act.put, List.setIfInBounds_toArray, List.set_cons_zero, List.set_cons_succ])
            refine wpAnyS_done (by kernel_rfl) ?_
            clear hHeld HSF
            go_wp2_with fail
            go_roundw
            case rel => exact ⟨k + 1, by omega, by omega, by go_num, hs2.out, BD.out⟩
            case measure => simp [intOf]; omega
        · have hs2 := hid (show beforeN a b = decide (x < y) by rw [HA.out, hst.out, if_neg hxy])
          have hne : (x == y) = false := by simp [hxy]
          have Hxy := hid hxy
          clear hxy
          as_aux_lemma =>
            refine wpAnyG_pure 0 (v := ?_) (fun _ => trivial) (by simp only [List.getElem?_toArray, List.getElem?_cons_succ, List.getElem?_cons_zero]; rfl) (by kernel_rfl) (fun _ _ _ _ _ h => h) ⟨(by rfl), (by intro c h; cases h), ?_⟩ hHeld ?_
            rotate_left
            focus (intro wS hSw; (try replace hSw := HSF.out wS hSw); (try dsimp only at hSw); go_simp; (try with_reducible rfl))
            (try simp only [Act.put, List.setIfInBounds_toArray, List.set_cons_zero, List.set_cons_succ])
            refine wpAnyG_pure 1 (v := ?_) (fun _ => trivial) (by simp only [List.getElem?_toArray, List.getElem?_cons_succ, List.getElem?_cons_zero]; rfl) (by kernel_rfl) (fun _ _ _ _ _ h => h) ⟨(by rfl), (by intro c h; cases h), ?_⟩ hHeld ?_
            rotate_left
            focus (intro wS hSw; (try replace hSw := HSF.out wS hSw); (try dsimp only at hSw); go_simp; (try with_reducible rfl))
            (try simp only [Act.put, List.setIfInBounds_toArray, List.set_cons_zero, List.set_cons_succ])
            refine wpAnyG_pure 2 (v := ?_) (fun _ => trivial) (by simp only [List.getElem?_toArray, List.getElem?_cons_succ, List.getElem?_cons_zero]; rfl) (by kernel_rfl) (fun _ _ _ _ _ h => h) ⟨(by rfl), (by intro c h; cases h), ?_⟩ hHeld ?_
            rotate_left
            focus (intro wS hSw; (try replace hSw := HSF.out wS hSw); (try dsimp only at hSw); go_simp; (try with_reducible rfl))
            (try simp only [Act.put, List.setIfInBounds_toArray, List.set_cons_zero, List.set_cons_succ])
            refine wpAnyG_take 3 (v := ?_) (fun _ => trivial) (by simp only [List.getElem?_toArray, List.getElem?_cons_succ, List.getElem?_cons_zero]; rfl) (by kernel_rfl) (fun _ _ _ _ _ h => h) ⟨(by rfl), (by intro c h; cases h), ?_⟩ hHeld ?_
            rotate_left
            focus (intro wS hSw; (try replace hSw := HSF.out wS hSw); (try dsimp only at hSw); go_simp; (try with_reducible rfl))
            (try simp only [Act.put, List.setIfInBounds_toArray, List.set_cons_zero, List.set_cons_succ])
            refine wpAnyG_pure 4 (v := ?_) (fun _ => trivial) (by simp only [List.getElem?_toArray, List.getElem?_cons_succ, List.getElem?_cons_zero]; rfl) (by kernel_rfl) (fun _ _ _ _ _ h => h) ⟨(by rfl), (by intro c h; cases h), ?_⟩ hHeld ?_
            rotate_left
            focus (intro wS hSw; (try replace hSw := HSF.out wS hSw); (try dsimp only at hSw); go_simp; (try with_reducible rfl))
            (try simp only [Act.put, List.setIfInBounds_toArray, List.set_cons_zero, List.set_cons_succ])
            refine wpAnyG_pure 5 (v := ?_) (fun _ => trivial) (by simp only [List.getElem?_toArray, List.getElem?_cons_succ, List.getElem?_cons_zero]; rfl) (by kernel_rfl) (fun _ _ _ _ _ h => h) ⟨(by rfl), (by intro c h; cases h), ?_⟩ hHeld ?_
            rotate_left
            focus (intro wS hSw; (try replace hSw := HSF.out wS hSw); (try dsimp only at hSw); go_simp; (try with_reducible rfl))
            (try simp only [Act.put, List.setIfInBounds_toArray, List.set_cons_zero, List.set_cons_succ])
            refine wpAnyG_pure 6 (v := ?_) (fun _ => trivial) (by simp only [List.getElem?_toArray, List.getElem?_cons_succ, List.getElem?_cons_zero]; rfl) (by kernel_rfl) (fun _ _ _ _ _ h => h) ⟨(by rfl), (by intro c h; cases h), ?_⟩ hHeld ?_
            rotate_left
            focus (intro wS hSw; (try replace hSw := HSF.out wS hSw); (try dsimp only at hSw); go_simp; (try with_reducible rfl))
            (try simp only [Act.put, List.setIfInBounds_toArray, List.set_cons_zero, List.set_cons_succ])
            refine wpAnyG_take 7 (v := ?_) (fun _ => trivial) (by simp only [List.getElem?_toArray, List.getElem?_cons_succ, List.getElem?_cons_zero]; rfl) (by kernel_rfl) (fun _ _ _ _ _ h => h) ⟨(by rfl), (by intro c h; cases h), ?_⟩ hHeld ?_
            rotate_left
            focus (intro wS hSw; (try replace hSw := HSF.out wS hSw); (try dsimp only at hSw); go_simp; (try with_reducible rfl))
            (try simp only [Act.put, List.setIfInBounds_toArray, List.set_cons_zero, List.set_cons_succ])
            refine wpAnyG_pure 8 (v := ?_) (fun _ => trivial) (by simp only [List.getElem?_toArray, List.getElem?_cons_succ, List.getElem?_cons_zero]; rfl) (by kernel_rfl) (fun _ _ _ _ _ h => h) ⟨(by rfl), (by intro c h; cases h), ?_⟩ hHeld ?_
            rotate_left
            focus (intro wS hSw; (try replace hSw := HSF.out wS hSw); (try dsimp only at hSw); go_simp; (try with_reducible rfl))
            (try simp only [Act.put, List.setIfInBounds_toArray, List.set_cons_zero, List.set_cons_succ])
            refine wpAnyS_done (by kernel_rfl) ?_
            clear hHeld HSF
            go_upto_region 5 with fail
            have BE := hid BD.out.drew
            refine wpIn_wide.1 (wpIn_region_S (n := 0) (fun wq => wq.cell? ⟨b1, o1 + k, none⟩ = some (.int .i64 x) ∧ wq.cell? ⟨b2, o2 + k, none⟩ = some (.int .i64 y)) [] (by kernel_rfl) ⟨g1d, g2d⟩ (fun hHeld => ?_))
            have HSF := hid (fun (wq : World) (hq : wq.cell? ⟨b1, o1 + k, none⟩ = some (.int .i64 x) ∧ wq.cell? ⟨b2, o2 + k, none⟩ = some (.int .i64 y)) => hq)
            clear BD
            generalize wd.drew = we at *
            refine wpAnyG_pure 0 (v := ?_) (fun _ => trivial) (by simp only [List.getElem?_toArray, List.getElem?_cons_succ, List.getElem?_cons_zero]; rfl) (by kernel_rfl) (fun _ _ _ _ _ h => h) ⟨(by rfl), (by intro c h; cases h), ?_⟩ hHeld ?_
            rotate_left
            focus (intro wS hSw; (try replace hSw := HSF.out wS hSw); (try dsimp only at hSw); go_simp; (try with_reducible rfl))
            (try simp only [Act.put, List.setIfInBounds_toArray, List.set_cons_zero, List.set_cons_succ])
            refine wpAnyG_pure 1 (v := ?_) (fun _ => trivial) (by simp only [List.getElem?_toArray, List.getElem?_cons_succ, List.getElem?_cons_zero]; rfl) (by kernel_rfl) (fun _ _ _ _ _ h => h) ⟨(by rfl), (by intro c h; cases h), ?_⟩ hHeld ?_
            rotate_left
            focus (intro wS hSw; (try replace hSw := HSF.out wS hSw); (try dsimp only at hSw); go_simp; (try with_reducible rfl))
            (try simp only [Act.put, List.setIfInBounds_toArray, List.set_cons_zero, List.set_cons_succ])
            refine wpAnyG_pure 2 (v := ?_) (fun _ => trivial) (by simp only [List.getElem?_toArray, List.getElem?_cons_succ, List.getElem?_cons_zero]; rfl) (by kernel_rfl) (fun _ _ _ _ _ h => h) ⟨(by rfl), (by intro c h; cases h), ?_⟩ hHeld ?_
            rotate_left
            focus (intro wS hSw; (try replace hSw := HSF.out wS hSw); (try dsimp only at hSw); go_simp; (try with_reducible rfl))
            (try simp only [Act.put, List.setIfInBounds_toArray, List.set_cons_zero, List.set_cons_succ])
            refine wpAnyG_take 3 (v := ?_) (fun _ => trivial) (by simp only [List.getElem?_toArray, List.getElem?_cons_succ, List.getElem?_cons_zero]; rfl) (by kernel_rfl) (fun _ _ _ _ _ h => h) ⟨(by rfl), (by intro c h; cases h), ?_⟩ hHeld ?_
            rotate_left
            focus (intro wS hSw; (try replace hSw := HSF.out wS hSw); (try dsimp only at hSw); go_simp; (try with_reducible rfl))
            (try simp only [Act.put, List.setIfInBounds_toArray, List.set_cons_zero, List.set_cons_succ])
            refine wpAnyG_pure 4 (v := ?_) (fun _ => trivial) (by simp only [List.getElem?_toArray, List.getElem?_cons_succ, List.getElem?_cons_zero]; rfl) (by kernel_rfl) (fun _ _ _ _ _ h => h) ⟨(by rfl), (by intro c h; cases h), ?_⟩ hHeld ?_
            rotate_left
            focus (intro wS hSw; (try replace hSw := HSF.out wS hSw); (try dsimp only at hSw); go_simp; (try with_reducible rfl))
            (try simp only [Act.put, List.setIfInBounds_toArray, List.set_cons_zero, List.set_cons_succ])
            refine wpAnyG_pure 5 (v := ?_) (fun _ => trivial) (by simp only [List.getElem?_toArray, List.getElem?_cons_succ, List.getElem?_cons_zero]; rfl) (by kernel_rfl) (fun _ _ _ _ _ h => h) ⟨(by rfl), (by intro c h; cases h), ?_⟩ hHeld ?_
            rotate_left
            focus (intro wS hSw; (try replace hSw := HSF.out wS hSw); (try dsimp only at hSw); go_simp; (try with_reducible rfl))
            (try simp only [Act.put, List.setIfInBounds_toArray, List.set_cons_zero, List.set_cons_succ])
            refine wpAnyG_pure 6 (v := ?_) (fun _ => trivial) (by simp only [List.getElem?_toArray, List.getElem?_cons_succ, List.getElem?_cons_zero]; rfl) (by kernel_rfl) (fun _ _ _ _ _ h => h) ⟨(by rfl), (by intro c h; cases h), ?_⟩ hHeld ?_
            rotate_left
            focus (intro wS hSw; (try replace hSw := HSF.out wS hSw); (try dsimp only at hSw); go_simp; (try with_reducible rfl))
            (try simp only [Act.put, List.setIfInBounds_toArray, List.set_cons_zero, List.set_cons_succ])
            refine wpAnyG_take 7 (v := ?_) (fun _ => trivial) (by simp only [List.getElem?_toArray, List.getElem?_cons_succ, List.getElem?_cons_zero]; rfl) (by kernel_rfl) (fun _ _ _ _ _ h => h) ⟨(by rfl), (by intro c h; cases h), ?_⟩ hHeld ?_
            rotate_left
            focus (intro wS hSw; (try replace hSw := HSF.out wS hSw); (try dsimp only at hSw); go_simp; (try with_reducible rfl))
            (try simp only [Act.put, List.setIfInBounds_toArray, List.set_cons_zero, List.set_cons_succ])
            refine wpAnyG_pure 8 (v := ?_) (fun _ => trivial) (by simp only [List.getElem?_toArray, List.getElem?_cons_succ, List.getElem?_cons_zero]; rfl) (by kernel_rfl) (fun _ _ _ _ _ h => h) ⟨(by rfl), (by intro c h; cases h), ?_⟩ hHeld ?_
            rotate_left
            focus (intro wS hSw; (try replace hSw := HSF.out wS hSw); (try dsimp only at hSw); go_simp; (try with_reducible rfl))
            (try simp only [Act.put, List.setIfInBounds_toArray, List.set_cons_zero, List.set_cons_succ])
            refine wpAnyG_pure 9 (v := ?_) (fun _ => trivial) (by simp only [List.getElem?_toArray, List.getElem?_cons_succ, List.getElem?_cons_zero]; rfl) (by kernel_rfl) (fun _ _ _ _ _ h => h) ⟨(by rfl), (by intro c h; cases h), ?_⟩ hHeld ?_
            rotate_left
            focus (intro wS hSw; (try replace hSw := HSF.out wS hSw); (try dsimp only at hSw); go_simp; (try with_reducible rfl))
            (try simp only [Act.put, List.setIfInBounds_toArray, List.set_cons_zero, List.set_cons_succ])
            refine wpAnyS_done (by kernel_rfl) ?_
            clear hHeld HSF
            go_wp2_with fail
            go_ret
            exact ⟨ret_bool hs2.out.symm, BE.out⟩
      · obtain rfl : k = b.length := by omega
        have hr := hid (show beforeN a b = false by rw [HA.out, List.drop_length]; cases a.drop b.length <;> rfl)
        go_wp2_with fail
        go_ret
        exact ⟨ret_bool hr.out.symm, HB.out⟩
    · obtain rfl : k = a.length := by omega
      have hr := hid (show beforeN a b = false by rw [HA.out, List.drop_length]; cases b.drop a.length <;> rfl)
      go_wp2_with fail
      go_ret
      exact ⟨ret_bool hr.out.symm, HB.out⟩
end Go.Proofs.YteljfpcmpdpehaaGreatDoor
namespace Go.Proofs.YteljfpcmpdpehaaGreatDoor
open Go.RowKit Go.IntWalk Go.Shelf

def iRK : RK Int where
  e := 3
  t := 25
  size := 1
  bytes := 8
  z := .int .i64 0
  cs x := [.int .i64 x]
  ok x := I64 x
  und := Tryz.underlying25
  info := by kernel_rfl
  zcs := rfl
  pos := by omega
  small := by omega
  len _ := rfl
  one x v hv := by simp at hv; rcases hv with rfl; rfl
  rsz := rfl
  rep w B x h := ⟨rfl, h⟩
  inv w B c x h := ⟨h.1, h.2⟩
theorem iall (l : List Int) : iRK.all l = l.map (Value.int .i64) := by
  unfold RK.all
  induction l with
  | nil => rfl
  | cons x l ih => rw [List.flatMap_cons, ih]; rfl
theorem iOwn_iff {w : World} {base : Nat} {v : Value} {l : List Int} : iRK.Own w base v l ↔ OwnI w base v l := by
  unfold RK.Own OwnI
  rw [iall]
  exact Iff.rfl
set_option maxRecDepth 100000 in
set_option maxHeartbeats 1000000 in
theorem weight_r (A : Option Addr) (c : Nat) (m : List Int) (B : Option Addr) (d : Nat) (ws : List Int) (w : World) (h : SlR w w.heap.size A m) (hW : SlR w w.heap.size B ws) (hl : m.length ≤ 64) (hlw : m.length = ws.length)
    (hm : ∀ x ∈ m, 0 ≤ x ∧ x ≤ 1099511627776) (hw : ∀ x ∈ ws, -100000 ≤ x ∧ x ≤ 100000) :
    Calls Tryz.prog 29 #[.slice A m.length c, .slice B ws.length d] w fun e w' => e = .returned (.int .i64 (weightN m ws)) ∧ Below w.heap.size w w' := by
  have HIN := hid (weightN_in m ws hm hw)
  have HT := hid (weightN_take m ws)
  have HLW := hid hlw
  have hl2 : ws.length ≤ 64 := by omega
  clear hlw
  go_enter Tryz.func29, Tryz.ntmps29
  go_upto_region 3 with fail
  go_loopw [5, 6] (fun x i wr => ∃ k : Nat, k ≤ m.length ∧ i = .int .i64 k ∧ Below w.heap.size w wr ∧ x = .int .i64 (weightN (m.take k) (ws.take k))) (fun _ i _ => m.length - (intOf i).toNat)
  case atStart => exact ⟨0, by omega, rfl, Below.refl _ _, rfl⟩
  case round =>
    obtain ⟨k, hk, rfl, hB, rfl⟩ := hrel
    have HB := hid hB
    clear hB
    by_cases hlt : k < m.length
    · have hlt' : (k : Int) < m.length := by omega
      have hltw : k < ws.length := by have := HLW.out; omega
      have hltw' : (k : Int) < ws.length := by omega
      obtain ⟨b, off, rfl, hb, g0, _⟩ := (h.below HB.out).int hlt
      obtain ⟨b2, off2, rfl, hb2, g2, _⟩ := (hW.below HB.out).int hltw
      have hi := HIN.out k (by omega) (by omega)
      have hp := mul_in (hm _ (List.getElem_mem hlt)) (hw _ (List.getElem_mem hltw))
      have ht := hid (HT.out k hlt hltw)
      generalize m[k] = x at *
      generalize ws[k] = y at *
      generalize hxy : x * y = z at *
      generalize weightN (m.take k) (ws.take k) = s at *
      have hs : -7036874417766400000 ≤ s ∧ s ≤ 7036874417766400000 := by omega
      have hz : IntKind.i64.wrap (x * y) = z := by rw [hxy]; simp [IntKind.wrap, IntKind.bits, IntKind.signed]; omega
      have hz2 : wrap64 (s + z) = s + z := wrap64_in _ (by omega)
      have hz3 : IntKind.i64.wrap (s + z) = s + z := i64_in _ (by omega)
      clear hi hp hxy
      go_upto_region 5 with fail
      have BD := hid HB.out.drew
      refine wpIn_wide.1 (wpIn_region_S (n := 0) (fun wq => wq.cell? ⟨b, off + k, none⟩ = some (.int .i64 x) ∧ wq.cell? ⟨b2, off2 + k, none⟩ = some (.int .i64 y)) [] (by kernel_rfl) ⟨g0, g2⟩ (fun hHeld => ?_))
      have HSF := hid (fun (wq : World) (hq : wq.cell? ⟨b, off + k, none⟩ = some (.int .i64 x) ∧ wq.cell? ⟨b2, off2 + k, none⟩ = some (.int .i64 y)) => hq)
      clear HB g0 g2
      generalize wr.drew = wd at *
      refine wpAnyG_pure 0 (v := ?_) (fun _ => trivial) (by simp only [List.getElem?_toArray, List.getElem?_cons_succ, List.getElem?_cons_zero]; rfl) (by kernel_rfl) (fun _ _ _ _ _ h => h) ⟨(by rfl), (by intro c h; cases h), ?_⟩ hHeld ?_
      rotate_left
      focus (intro wS hSw; (try replace hSw := HSF.out wS hSw); (try dsimp only at hSw); go_simp; (try with_reducible rfl))
      (try simp only [Act.put, List.setIfInBounds_toArray, List.set_cons_zero, List.set_cons_succ])
      refine wpAnyG_pure 1 (v := ?_) (fun _ => trivial) (by simp only [List.getElem?_toArray, List.getElem?_cons_succ, List.getElem?_cons_zero]; rfl) (by kernel_rfl) (fun _ _ _ _ _ h => h) ⟨(by rfl), (by intro c h; cases h), ?_⟩ hHeld ?_
      rotate_left
      focus (intro wS hSw; (try replace hSw := HSF.out wS hSw); (try dsimp only at hSw); go_simp; (try with_reducible rfl))
      (try simp only [Act.put, List.setIfInBounds_toArray, List.set_cons_zero, List.set_cons_succ])
      refine wpAnyG_pure 2 (v := ?_) (fun _ => trivial) (by simp only [List.getElem?_toArray, List.getElem?_cons_succ, List.getElem?_cons_zero]; rfl) (by kernel_rfl) (fun _ _ _ _ _ h => h) ⟨(by rfl), (by intro c h; cases h), ?_⟩ hHeld ?_
      rotate_left
      focus (intro wS hSw; (try replace hSw := HSF.out wS hSw); (try dsimp only at hSw); go_simp; (try with_reducible rfl))
      (try simp only [Act.put, List.setIfInBounds_toArray, List.set_cons_zero, List.set_cons_succ])
      refine wpAnyG_pure 3 (v := ?_) (fun _ => trivial) (by simp only [List.getElem?_toArray, List.getElem?_cons_succ, List.getElem?_cons_zero]; rfl) (by kernel_rfl) (fun _ _ _ _ _ h => h) ⟨(by rfl), (by intro c h; cases h), ?_⟩ hHeld ?_
      rotate_left
      focus (intro wS hSw; (try replace hSw := HSF.out wS hSw); (try dsimp only at hSw); go_simp; (try with_reducible rfl))
      (try simp only [Act.put, List.setIfInBounds_toArray, List.set_cons_zero, List.set_cons_succ])
      refine wpAnyG_take 4 (v := ?_) (fun _ => trivial) (by simp only [List.getElem?_toArray, List.getElem?_cons_succ, List.getElem?_cons_zero]; rfl) (by kernel_rfl) (fun _ _ _ _ _ h => h) ⟨(by rfl), (by intro c h; cases h), ?_⟩ hHeld ?_
      rotate_left
      focus (intro wS hSw; (try replace hSw := HSF.out wS hSw); (try dsimp only at hSw); go_simp; (try with_reducible rfl))
      (try simp only [Act.put, List.setIfInBounds_toArray, List.set_cons_zero, List.set_cons_succ])
      refine wpAnyG_pure 5 (v := ?_) (fun _ => trivial) (by simp only [List.getElem?_toArray, List.getElem?_cons_succ, List.getElem?_cons_zero]; rfl) (by kernel_rfl) (fun _ _ _ _ _ h => h) ⟨(by rfl), (by intro c h; cases h), ?_⟩ hHeld ?_
      rotate_left
      focus (intro wS hSw; (try replace hSw := HSF.out wS hSw); (try dsimp only at hSw); go_simp; (try with_reducible rfl))
      (try simp only [Act.put, List.setIfInBounds_toArray, List.set_cons_zero, List.set_cons_succ])
      refine wpAnyG_pure 6 (v := ?_) (fun _ => trivial) (by simp only [List.getElem?_toArray, List.getElem?_cons_succ, List.getElem?_cons_zero]; rfl) (by kernel_rfl) (fun _ _ _ _ _ h => h) ⟨(by rfl), (by intro c h; cases h), ?_⟩ hHeld ?_
      rotate_left
      focus (intro wS hSw; (try replace hSw := HSF.out wS hSw); (try dsimp only at hSw); go_simp; (try with_reducible rfl))
      (try simp only [Act.put, List.setIfInBounds_toArray, List.set_cons_zero, List.set_cons_succ])
      refine wpAnyG_pure 7 (v := ?_) (fun _ => trivial) (by simp only [List.getElem?_toArray, List.getElem?_cons_succ, List.getElem?_cons_zero]; rfl) (by kernel_rfl) (fun _ _ _ _ _ h => h) ⟨(by rfl), (by intro c h; cases h), ?_⟩ hHeld ?_
      rotate_left
      focus (intro wS hSw; (try replace hSw := HSF.out wS hSw); (try dsimp only at hSw); go_simp; (try with_reducible rfl))
      (try simp only [Act.put, List.setIfInBounds_toArray, List.set_cons_zero, List.set_cons_succ])
      refine wpAnyG_take 8 (v := ?_) (fun _ => trivial) (by simp only [List.getElem?_toArray, List.getElem?_cons_succ, List.getElem?_cons_zero]; rfl) (by kernel_rfl) (fun _ _ _ _ _ h => h) ⟨(by rfl), (by intro c h; cases h), ?_⟩ hHeld ?_
      rotate_left
      focus (intro wS hSw; (try replace hSw := HSF.out wS hSw); (try dsimp only at hSw); go_simp; (try with_reducible rfl))
      (try simp only [Act.put, List.setIfInBounds_toArray, List.set_cons_zero, List.set_cons_succ])
      refine wpAnyG_pure 9 (v := ?_) (fun _ => trivial) (by simp only [List.getElem?_toArray, List.getElem?_cons_succ, List.getElem?_cons_zero]; rfl) (by kernel_rfl) (fun _ _ _ _ _ h => h) ⟨(by rfl), (by intro c h; cases h), ?_⟩ hHeld ?_
      rotate_left
      focus (intro wS hSw; (try replace hSw := HSF.out wS hSw); (try dsimp only at hSw); go_simp; (try with_reducible rfl))
      (try simp only [Act.put, List.setIfInBounds_toArray, List.set_cons_zero, List.set_cons_succ])
      refine wpAnyG_pure 10 (v := ?_) (fun _ => trivial) (by simp only [List.getElem?_toArray, List.getElem?_cons_succ, List.getElem?_cons_zero]; rfl) (by kernel_rfl) (fun _ _ _ _ _ h => h) ⟨(by rfl), (by intro c h; cases h), ?_⟩ hHeld ?_
      rotate_left
      focus (intro wS hSw; (try replace hSw := HSF.out wS hSw); (try dsimp only at hSw); go_simp; (try with_reducible rfl))
      (try simp only [Act.put, List.setIfInBounds_toArray, List.set_cons_zero, List.set_cons_succ])
      refine wpAnyG_pure 11 (v := ?_) (fun _ => trivial) (by simp only [List.getElem?_toArray, List.getElem?_cons_succ, List.getElem?_cons_zero]; rfl) (by kernel_rfl) (fun _ _ _ _ _ h => h) ⟨(by rfl), (by intro c h; cases h), ?_⟩ hHeld ?_
      rotate_left
      focus (intro wS hSw; (try replace hSw := HSF.out wS hSw); (try dsimp only at hSw); go_simp; (try with_reducible rfl))
      (try simp only [Act.put, List.setIfInBounds_toArray, List.set_cons_zero, List.set_cons_succ])
      refine wpAnyS_done (by kernel_rfl) ?_
      clear hHeld HSF
      go_wp2_with fail
      go_roundw
      case rel => exact ⟨k + 1, by omega, by go_num, BD.out, by rw [ht.out]⟩
      case measure => simp [intOf]; omega
    · obtain rfl : k = m.length := by omega
      have hfin := hid (show weightN (m.take m.length) (ws.take m.length) = weightN m ws by rw [List.take_length, HLW.out, List.take_length])
      generalize weightN (m.take m.length) (ws.take m.length) = s at *
      go_wp2_with fail
      go_ret
      exact ⟨by rw [← hfin.out]; rfl, HB.out⟩
set_option maxRecDepth 100000 in
set_option maxHeartbeats 2000000 in
theorem inv_r (N : Nat) (A : Option Addr) (c : Nat) (T : List Tr) (B : Option Addr) (d : Nat) (ws : List Int) (w : World) (hl : T.length ≤ maxLen) (h : SlR w w.heap.size A T) (hW : SlR w w.heap.size B ws) (hok : netOK ((N : Int), T) = true) (hwt : wtOK (N : Int) ws = true) :
    Calls Tryz.prog 25 #[.agg #[.int .i64 (N : Nat), .slice A T.length c], .slice B ws.length d] w fun e w' => e = .returned (.bool (invN T ws)) ∧ Below w.heap.size w w' := by
  obtain ⟨hwl, hwr⟩ := wt_parts hwt
  have hN64 : N ≤ 64 := by
    simp only [netOK, Bool.and_eq_true, decide_eq_true_eq] at hok
    omega
  obtain ⟨w1, hw1⟩ : ∃ w1, w1 = (w.alloc (Obj.cells #[.int .i64 (N : Nat), .slice A T.length c] 24)) := ⟨_, rfl⟩
  have B1 : Below w.heap.size w w1 := by rw [hw1]; (repeat (first | exact Below.refl _ _ | assumption | refine below_drewN ?_ _ | refine Below.drew ?_ | refine Below.alloc ?_ (by (try simp); (try omega)) _ | refine Below.setCell ?_ (by (try simp); (try omega)) _))
  have x1 : Blk w1 w.heap.size 24 #[.int .i64 (N : Nat), .slice A T.length c] := by rw [hw1]; exact Blk.new w _ _
  have y0 := x1.cell 0; have y1 := x1.cell 1; have z1 := x1.lt
  simp at y0 y1
  have HB1 := hid B1
  have h1 := (h.below B1).more B1.size
  have hW1 := (hW.below B1).more B1.size
  have hno := hid (fun (k : Nat) (hk : k < T.length) (hf : unbal ws T[k] = true) => show invN T ws = false by
    unfold invN
    have : T.any (unbal ws) = true := List.any_eq_true.2 ⟨_, List.getElem_mem hk, hf⟩
    rw [this]; rfl)
  have hsets := hid (fun (k : Nat) (hk : k < T.length) => net_sets hok (List.getElem_mem hk))
  have hin := hid (sumN_in ws · hwr)
  have hwl2 : ws.length ≤ 64 := by omega
  have HWL := hid hwl
  clear x1 B1 h hW hok hwt hwr hwl
  unfold maxLen at hl
  go_enter Tryz.func25, Tryz.ntmps25
  go_upto_region 1 with fail
  rw [← hw1]
  clear hw1
  go_upto_region 2 with fail
  go_loopw [5] (fun i wr => ∃ k : Nat, k ≤ T.length ∧ i = .int .i64 k ∧ w1 = wr ∧ (T.take k).any (unbal ws) = false) (fun i _ => T.length - (intOf i).toNat)
  case atStart => exact ⟨0, by omega, rfl, rfl, by simp⟩
  case round =>
    obtain ⟨k, hk, rfl, rfl, ht⟩ := hrel
    have HT := hid ht
    clear ht
    by_cases hlt : k < T.length
    · have hlt' : (k : Int) < T.length := by omega
      obtain ⟨b, off, A1, c1, A2, c2, rfl, hb, g0, g1, s1, s2, l1, l2⟩ := h1.tr hlt
      have hf := hid (hno.out k hlt)
      have hst := hid (show (T.take (k + 1)).any (unbal ws) = unbal ws T[k] by rw [List.take_add_one, List.getElem?_eq_getElem hlt, List.any_append, HT.out]; simp)
      obtain ⟨e1, e2⟩ := hsets.out k hlt
      generalize T[k] = t at *
      obtain ⟨I, O⟩ := t
      simp only at g0 g1 s1 s2 l1 l2 e1 e2
      have il := setB_len e1 (by omega)
      have ol := setB_len e2 (by omega)
      have im := hid (fun p (hp : p ∈ I) => setB_mem e1 p hp)
      have om := hid (fun p (hp : p ∈ O) => setB_mem e2 p hp)
      have hI := hid (hin.out I)
      have hO := hid (hin.out O)
      have hub := hid (show unbal ws (I, O) = decide (sumN ws I ≠ sumN ws O) from rfl)
      have HlI := hid (hin.out I I.length (Nat.le_refl _))
      rw [List.take_length] at HlI
      clear e1 e2 l1 l2
      go_upto_region 6 with fail
      go_loopw [6, 7] (fun x i wr => ∃ j : Nat, j ≤ I.length ∧ i = .int .i64 j ∧ w1 = wr ∧ x = .int .i64 (-(sumN ws (I.take j)))) (fun _ i _ => I.length - (intOf i).toNat)
      case atStart => exact ⟨0, by omega, rfl, rfl, rfl⟩
      case round =>
        obtain ⟨j, hj, rfl, rfl, rfl⟩ := hrel
        by_cases hlj : j < I.length
        · have hlj' : (j : Int) < I.length := by omega
          obtain ⟨b3, o3, rfl, hb3, g3, _⟩ := s1.int hlj
          have hp := im.out I[j] (List.getElem_mem hlj)
          have hi := hI.out j (by omega)
          have ht := hid (sumN_take ws I j hlj)
          generalize I[j] = x at *
          obtain ⟨p, rfl⟩ := Int.eq_ofNat_of_zero_le hp.1
          have hpw : p < ws.length := by have := HWL.out; omega
          have hpw' : (p : Int) < ws.length := by omega
          obtain ⟨b4, o4, rfl, hb4, g4, _⟩ := hW1.int hpw
          have hgd := hid (show ws.getD ((p : Nat) : Int).toNat 0 = ws[p] by rw [Int.toNat_natCast, List.getD_eq_getElem?_getD, List.getElem?_eq_getElem hpw]; rfl)
          have hwr0 := hI.out (j + 1) (by omega)
          rw [ht.out, hgd.out] at hwr0
          generalize sumN ws (I.take j) = s at *
          generalize ws[p] = v at *
          have hs1 : -6400000 ≤ s ∧ s ≤ 6400000 := by omega
          have hs2 : -6500000 ≤ s + v ∧ s + v ≤ 6500000 := by omega
          clear hi hwr0 hp
          go_wp2_with fail
          go_roundw
          case rel => exact ⟨j + 1, by omega, by go_num, by first | trivial | rfl, by rw [ht.out, hgd.out]; go_num⟩
          case measure => simp [intOf]; omega
        · obtain rfl : j = I.length := by omega
          rw [List.take_length]
          generalize sumN ws I = sI at *
          have hsI : -6400000 ≤ sI ∧ sI ≤ 6400000 := by have := HlI.out; omega
          go_upto_region 10 with fail
          go_loopw [6, 8] (fun x i wr => ∃ j : Nat, j ≤ O.length ∧ i = .int .i64 j ∧ w1 = wr ∧ x = .int .i64 (-sI + sumN ws (O.take j))) (fun _ i _ => O.length - (intOf i).toNat)
          case atStart => exact ⟨0, by omega, rfl, rfl, by simp [sumN]⟩
          case round =>
            obtain ⟨j, hj, rfl, rfl, rfl⟩ := hrel
            by_cases hlj : j < O.length
            · have hlj' : (j : Int) < O.length := by omega
              obtain ⟨b3, o3, rfl, hb3, g3, _⟩ := s2.int hlj
              have hp := om.out O[j] (List.getElem_mem hlj)
              have hi := hO.out j (by omega)
              have ht := hid (sumN_take ws O j hlj)
              generalize O[j] = x at *
              obtain ⟨p, rfl⟩ := Int.eq_ofNat_of_zero_le hp.1
              have hpw : p < ws.length := by have := HWL.out; omega
              have hpw' : (p : Int) < ws.length := by omega
              obtain ⟨b4, o4, rfl, hb4, g4, _⟩ := hW1.int hpw
              have hgd := hid (show ws.getD ((p : Nat) : Int).toNat 0 = ws[p] by rw [Int.toNat_natCast, List.getD_eq_getElem?_getD, List.getElem?_eq_getElem hpw]; rfl)
              have hwr0 := hO.out (j + 1) (by omega)
              rw [ht.out, hgd.out] at hwr0
              generalize sumN ws (O.take j) = s at *
              generalize ws[p] = v at *
              have hs1 : -6400000 ≤ s ∧ s ≤ 6400000 := by omega
              have hs2 : -6500000 ≤ s + v ∧ s + v ≤ 6500000 := by omega
              clear hi hwr0 hp
              go_wp2_with fail
              go_roundw
              case rel => exact ⟨j + 1, by omega, by go_num, by first | trivial | rfl, by rw [ht.out, hgd.out]; go_num⟩
              case measure => simp [intOf]; omega
            · obtain rfl : j = O.length := by omega
              rw [List.take_length]
              generalize sumN ws O = sO at *
              by_cases hq : sI = sO
              · have hqb : ((-sI + sO) == 0) = true := by rw [hq]; simp; omega
                have hr := hid (show unbal ws (I, O) = false by rw [hub.out]; simp [hq])
                have Hq := hid hq
                clear hq
                go_wp2_with fail
                go_roundw
                case rel => exact ⟨k + 1, by omega, by go_num, by first | trivial | rfl, by rw [hst.out, hr.out]⟩
                case measure => simp [intOf]; omega
              · have hqb : ((-sI + sO) == 0) = false := by simp; omega
                have hr := hid (hf.out (by rw [hub.out]; exact decide_eq_true hq))
                have Hq := hid hq
                clear hq
                go_wp2_with fail
                go_ret
                exact ⟨ret_bool hr.out.symm, HB1.out⟩
    · obtain rfl : k = T.length := by omega
      rw [List.take_length] at HT
      have hr := hid (show invN T ws = true by unfold invN; rw [HT.out]; rfl)
      go_wp2_with fail
      go_ret
      exact ⟨ret_bool hr.out.symm, HB1.out⟩
end Go.Proofs.YteljfpcmpdpehaaGreatDoor
namespace Go.Proofs.YteljfpcmpdpehaaGreatDoor
open Go.RowKit Go.IntWalk Go.Shelf

set_option maxRecDepth 100000 in
set_option maxHeartbeats 8000000 in
theorem fire_r (n : Int) (A : Option Addr) (c : Nat) (T : List Tr) (B : Option Addr) (d : Nat) (m : List Int) (t : Int) (w : World) (hl : T.length ≤ maxLen) (h : SlR w w.heap.size A T) (hM : SlR w w.heap.size B m)
    (hok : netOK (n, T) = true) (hmk : markOK (n, T) m = true) :
    Calls Tryz.prog 27 #[.agg #[.int .i64 n, .slice A T.length c], .slice B m.length d, .int .i64 t] w (RetFire w (fireN n T m t)) := by
  obtain ⟨w1, hw1⟩ : ∃ w1, w1 = (w.alloc (Obj.cells #[.int .i64 n, .slice A T.length c] 24)) := ⟨_, rfl⟩
  have s1 : w1.heap.size = w.heap.size + 1 := by rw [hw1]; simp
  have B1 : Below w.heap.size w w1 := by rw [hw1]; (repeat (first | exact Below.refl _ _ | assumption | refine below_drewN ?_ _ | refine Below.drew ?_ | refine Below.alloc ?_ (by (try simp); (try omega)) _ | refine Below.setCell ?_ (by (try simp); (try omega)) _))
  have x1 : Blk w1 w.heap.size 24 #[.int .i64 n, .slice A T.length c] := by rw [hw1]; exact Blk.new w _ _
  have y1 := x1.cell 1; have y0 := x1.cell 0; have z1 := x1.lt
  simp at y1 y0
  have HB1 := hid B1
  by_cases ht : t < 0 ∨ (T.length : Int) ≤ t
  · have hr := hid (show fireN n T m t = ([], 4) by unfold fireN; rw [if_pos ht])
    unfold maxLen at hl
    go_enter Tryz.func27, Tryz.ntmps27
    go_upto_region 1 with fail
    rw [← hw1]
    clear hw1 B1 x1
    by_cases h0 : t < 0
    · go_wp2_with fail
      go_ret2
      exact ⟨none, 0, by rw [hr.out]; rfl, by rw [hr.out]; exact SlR.nil, HB1.out⟩
    · have hT : (T.length : Int) ≤ t := by omega
      go_wp2_with fail
      go_ret2
      exact ⟨none, 0, by rw [hr.out]; rfl, by rw [hr.out]; exact SlR.nil, HB1.out⟩
  have hn : n = m.length := by
    simp only [markOK, Bool.and_eq_true, decide_eq_true_eq] at hmk
    exact hmk.1.symm
  have hn64 : 0 ≤ n ∧ n ≤ 64 := by
    simp only [netOK, Bool.and_eq_true, decide_eq_true_eq] at hok
    exact ⟨hok.1.1.1, hok.1.1.2⟩
  have hmr : ∀ x ∈ m, 0 ≤ x ∧ x ≤ 1099511627776 := fun x hx => by
    simp only [markOK, Bool.and_eq_true, List.all_eq_true, decide_eq_true_eq] at hmk
    exact hmk.2 x hx
  obtain ⟨q, rfl⟩ : ∃ q : Nat, t = q := ⟨t.toNat, by omega⟩
  have hq : q < T.length := by omega
  have hq' : (q : Int) < T.length := by omega
  have hset : setB n T[q].1 = true ∧ setB n T[q].2 = true := by
    simp only [netOK, Bool.and_eq_true, List.all_eq_true] at hok
    exact hok.2 _ (List.getElem_mem hq)
  have hmlen : m.length ≤ 64 := by omega
  have HE := hid (enabled_r n A c T B d m q w1 hl ((h.below B1).more B1.size) (by unfold maxLen; omega) ((hM.below B1).more B1.size) hn hok)
  have HMS := hid (fun W (hW : Below w.heap.size w W) => show SlR W W.heap.size B m from (hM.below hW).more hW.size)
  obtain ⟨b, off, A1, c1, A2, c2, rfl, hb, g0, g1, hs1, hs2, hl1, hl2⟩ := h.tr hq
  have hf := hid (show enN T m q = true → fireN n T m q = if T[q].2.any (tooFull (addN (-1) m T[q].1)) = false then (addN 1 (addN (-1) m T[q].1) T[q].2, 0) else ([], 6) from fun he => by
    have hen : T[q].1.any (lowF m) = false := by
      unfold enN at he
      simp only [Bool.and_eq_true, Bool.not_eq_true', Int.toNat_natCast] at he
      have h2 := he.2
      rwa [List.getD_eq_getElem?_getD, List.getElem?_eq_getElem hq] at h2
    have hmk2 := fire_mark hok hmk (List.getElem_mem hq) hen
    unfold fireN
    rw [if_neg ht, he]
    simp only [Int.toNat_natCast, List.getD_eq_getElem?_getD, List.getElem?_eq_getElem hq, Option.getD_some]
    rw [hmk2]
    cases T[q].2.any (tooFull (addN (-1) m T[q].1)) <;> simp)
  have hf0 := hid (show enN T m q = false → fireN n T m q = ([], 7) from fun he => by
    unfold fireN
    rw [if_neg ht, he]
    simp)
  have hI := hid (fun x (hx : x ∈ T[q].1) => setB_mem hset.1 x hx)
  have hO := hid (fun x (hx : x ∈ T[q].2) => setB_mem hset.2 x hx)
  have hat := hid (fun (m1 : List Int) (hm1 : m1.length = m.length) => addN_at 1 (m := m1) hset.2 (by rw [hm1]; exact hn.symm))
  have hIl := setB_len hset.1 hn64.1
  have hOl := setB_len hset.2 hn64.1
  have HMr := hid hmr
  clear h hM hok hmk hmr hset
  generalize T[q].1 = I at *
  generalize T[q].2 = O at *
  unfold maxLen at hl hl1 hl2
  have HN := hid hn
  clear ht hn
  go_enter Tryz.func27, Tryz.ntmps27
  go_upto_region 1 with fail
  rw [← hw1]
  clear hw1
  have X1 := hid x1
  clear x1
  cases he : enN T m q with
  | false =>
    rw [he] at HE
    have hr := hid (hf0.out he)
    clear he hf hf0
    go_wp2_with fail
    refine HE.out.mono ?_
    rintro e w2 ⟨rfl, hB2⟩
    have HB := hid (B1.trans (hB2.mono B1.size))
    clear hB2 HE
    go_wp2_with fail
    go_ret2
    exact ⟨none, 0, by rw [hr.out]; rfl, by rw [hr.out]; exact SlR.nil, HB.out⟩
  | true =>
    rw [he] at HE
    have hr := hid (hf.out he)
    clear he hf hf0
    go_upto_region 5 with (go_at_call 33; refine HE.out.mono ?_; rintro e w2 ⟨rfl, hB2⟩)
    have HB2 := hid (B1.trans (hB2.mono B1.size))
    have y0' := (bcell hB2 w.heap.size 0 z1).trans y0
    have y1' := (bcell hB2 w.heap.size 1 z1).trans y1
    have hgz := HB2.out.size
    have hms := hid (HMS.out w2 HB2.out)
    have z2 : w.heap.size < w2.heap.size := by have := hB2.size; omega
    have hown := hid (show iRK.Own (w2.alloc (Obj.cells #[] 3)) w2.heap.size (.slice (some ⟨w2.heap.size, 0, none⟩) 0 0) [] from RK.Own.fresh (l := []) (Blk.new w2 _ _) (Nat.le_refl _) (by simp))
    have hl9 := hid (show ([] : List Int).length + m.length ≤ 100000000 by simp; omega)
    clear hB2 HE HMS y0 y1
    go_upto_region 6 with (at_builtin; refine iRK.appL _ rfl (.tmp 26) (.tmp 27) rfl rfl hown.out (ys := m) (c := d) rfl (hms.out.alloc (Nat.le_refl _) _) hl9.out (by simp) ?_; intro A3 c3 w3 ho3 hg3)
    have hB3 : Below w2.heap.size w2 w3 := ((Below.refl _ w2).alloc (Nat.le_refl _) _).grown hg3 (by simp) (fun g hg => (own_blk hown.out g hg).1)
    simp only [List.length_nil, Nat.zero_add, List.nil_append] at ho3 ⊢
    have HB3 := hid (HB2.out.trans (hB3.mono HB2.out.size))
    have HW3 := hid hB3
    have y0 := (bcell hB3 w.heap.size 0 z2).trans y0'
    have y1 := (bcell hB3 w.heap.size 1 z2).trans y1'
    have z3 : w.heap.size < w3.heap.size := by have := hB3.size; omega
    have g0' := (bcell HB3.out b _ hb).trans g0
    have hzb : b < w3.heap.size := by have := HB3.out.size; omega
    have HO3 := hid (iOwn_iff.1 ho3)
    have HY := hid (And.intro y0' y1')
    clear hB3 ho3 hg3 y0' y1' hown hl9 hms
    have hIm := hid (fun k => addN_in (d := -1) (a := 0) (b := 1099511627776) (by omega) (I.take k) m (by omega) (by omega) (fun x hx => HMr.out x hx))
    go_upto_region 8 with fail
    go_loopw [10] (fun i wr => ∃ k : Nat, k ≤ I.length ∧ i = .int .i64 k ∧ Below w2.heap.size w2 wr ∧ w3.heap.size ≤ wr.heap.size ∧ OwnI wr w2.heap.size (.slice A3 m.length c3) (addN (-1) m (I.take k))) (fun i _ => I.length - (intOf i).toNat)
    case atStart => exact ⟨0, by omega, rfl, HW3.out, Nat.le_refl _, HO3.out⟩
    case round =>
      obtain ⟨k, hk, rfl, hBr, hsr, hor⟩ := hrel
      have HBr := hid hBr
      have HOr := hid hor
      clear hor
      by_cases hlt : k < I.length
      · have hlt' : (k : Int) < I.length := by omega
        obtain ⟨b1, off1, rfl, hb1, hc1, hi1⟩ := hs1.int hlt
        have hx := hI.out _ (List.getElem_mem hlt)
        have hst := hid (addN_take (-1) m I k hlt)
        have hin := hIm.out k
        replace hc1 := (bcell (HB2.out.trans (HBr.out.mono HB2.out.size)) b1 _ hb1).trans hc1
        have hzr : b1 < wr.heap.size := by omega
        have hkl : (I.take k).length ≤ 64 := by rw [List.length_take]; omega
        have hml := hid (addN_len (-1) (I.take k) m)
        clear hBr hi1
        generalize I[k] = x at *
        obtain ⟨p, rfl⟩ : ∃ p : Nat, x = p := ⟨x.toNat, by omega⟩
        rw [HN.out] at hx
        have hp : p < m.length := by omega
        have hp' : (p : Int) < m.length := by omega
        have hpl : p < (addN (-1) m (I.take k)).length := by rw [hml.out]; exact hp
        obtain ⟨A9, c9, hv9, hA9⟩ := HOr.out.form
        obtain ⟨g, rfl, hgb, hgl, hcell, hfr⟩ := hA9 (by intro e; rw [e] at hpl; simp at hpl)
        injection hv9 with hv9 hv9l hv9c
        subst hv9 hv9c
        have q0 := hcell p hpl
        have q1 := hfr p
        have hu := hin _ (List.getElem_mem hpl)
        have hu2 : -64 ≤ (addN (-1) m (I.take k))[p] ∧ (addN (-1) m (I.take k))[p] ≤ 1099511627840 := by omega
        have hset := hid (HOr.out.set_ hpl ((addN (-1) m (I.take k))[p] - 1))
        have hnx := hid (show addN (-1) m (I.take (k + 1)) = (addN (-1) m (I.take k)).set p ((addN (-1) m (I.take k))[p] - 1) by
          rw [hst.out, Int.toNat_natCast, List.getD_eq_getElem?_getD, List.getElem?_eq_getElem hpl]; rfl)
        have hB9 := hid (HBr.out.setCell (p := ⟨g, p, none⟩) hgb (.int .i64 ((addN (-1) m (I.take k))[p] - 1)))
        clear hfr hcell hin hu hst hA9
        rw [← hnx.out] at hset
        clear hnx
        generalize (addN (-1) m (I.take k))[p] = u at *
        go_wp2_with fail
        go_roundw
        case rel => exact ⟨k + 1, by omega, by go_num, hB9.out, by simpa using hsr, hset.out⟩
        case measure => simp [intOf]; omega
      · obtain rfl : k = I.length := by omega
        rw [List.take_length] at HOr
        have hIm9 := hid (show ∀ x ∈ addN (-1) m I, -64 ≤ x ∧ x ≤ 1099511627840 from fun x hx => by
          have h1 := hIm.out I.length
          rw [List.take_length] at h1
          have := h1 x hx
          omega)
        have hml := hid (addN_len (-1) I m)
        have hat1 := hid (hat.out (addN (-1) m I) hml.out)
        generalize addN (-1) m I = m1 at *
        clear hs1 hI HO3 hIm hat
        have g1' := (bcell (HB2.out.trans (hBr.mono HB2.out.size)) b _ hb).trans g1
        replace y1 := (bcell hBr w.heap.size 1 z2).trans HY.out.2
        have hzr : b < wr.heap.size := by omega
        have hzn : w.heap.size < wr.heap.size := by omega
        have hOm := hid (fun k => addN_in (d := 1) (a := -64) (b := 1099511627840) (by omega) (O.take k) m1 (by omega) (by omega) (fun x hx => hIm9.out x hx))
        clear g0' y0 hBr
        go_upto_region 13 with fail
        go_loopw [11] (fun i wq => ∃ k : Nat, k ≤ O.length ∧ i = .int .i64 k ∧ Below w2.heap.size w2 wq ∧ w3.heap.size ≤ wq.heap.size ∧ OwnI wq w2.heap.size (.slice A3 m.length c3) (addN 1 m1 (O.take k)) ∧ (O.take k).any (tooFull m1) = false) (fun i _ => O.length - (intOf i).toNat)
        case atStart => exact ⟨0, by omega, rfl, HBr.out, hsr, HOr.out, by simp⟩
        case round =>
          clear HBr HOr hsr hzr hzn
          obtain ⟨k, hk, rfl, hBr, hsr, hor, htf⟩ := hrel
          have HBr := hid hBr
          have HOr := hid hor
          have HTF := hid htf
          clear hor htf
          by_cases hlt : k < O.length
          · have hlt' : (k : Int) < O.length := by omega
            obtain ⟨b1, off1, rfl, hb1, hc1, hi1⟩ := hs2.int hlt
            have hx := hO.out _ (List.getElem_mem hlt)
            have hst := hid (addN_take 1 m1 O k hlt)
            have hav := hid (hat1.out k hlt)
            have htk := hid (show (O.take (k + 1)).any (tooFull m1) = tooFull m1 O[k] by rw [List.take_add_one, List.getElem?_eq_getElem hlt, List.any_append, HTF.out]; simp)
            have hyes := hid (show tooFull m1 O[k] = true → O.any (tooFull m1) = true from fun hh => List.any_eq_true.2 ⟨_, List.getElem_mem hlt, hh⟩)
            have hin := hOm.out k
            replace hc1 := (bcell (HB2.out.trans (HBr.out.mono HB2.out.size)) b1 _ hb1).trans hc1
            have hzr : b1 < wr.heap.size := by omega
            have hkl : (O.take k).length ≤ 64 := by rw [List.length_take]; omega
            have hml2 := hid (addN_len 1 (O.take k) m1)
            clear hBr hi1
            generalize O[k] = x at *
            obtain ⟨p, rfl⟩ : ∃ p : Nat, x = p := ⟨x.toNat, by omega⟩
            rw [HN.out] at hx
            have hp : p < m.length := by omega
            have hp' : (p : Int) < m.length := by omega
            have hpl : p < (addN 1 m1 (O.take k)).length := by rw [hml2.out, hml.out]; exact hp
            obtain ⟨A9, c9, hv9, hA9⟩ := HOr.out.form
            obtain ⟨g, rfl, hgb, hgl, hcell, hfr⟩ := hA9 (by intro e; rw [e] at hpl; simp at hpl)
            injection hv9 with hv9 hv9l hv9c
            subst hv9 hv9c
            have q0 := hcell p hpl
            have q1 := hfr p
            have hu := hin _ (List.getElem_mem hpl)
            have hu2 : -128 ≤ (addN 1 m1 (O.take k))[p] ∧ (addN 1 m1 (O.take k))[p] ≤ 1099511627904 := by omega
            have hset := hid (HOr.out.set_ hpl ((addN 1 m1 (O.take k))[p] + 1))
            have hnx := hid (show addN 1 m1 (O.take (k + 1)) = (addN 1 m1 (O.take k)).set p ((addN 1 m1 (O.take k))[p] + 1) by
              rw [hst.out, Int.toNat_natCast, List.getD_eq_getElem?_getD, List.getElem?_eq_getElem hpl]; rfl)
            have hfu := hid (show tooFull m1 (p : Nat) = decide (1099511627776 < (addN 1 m1 (O.take k))[p] + 1) by
              have h1 := hav.out
              rw [hnx.out, Int.toNat_natCast, List.getD_eq_getElem?_getD, List.getElem?_set_self hpl] at h1
              unfold tooFull
              rw [Int.toNat_natCast, ← h1]; rfl)
            have hB9 := hid (HBr.out.setCell (p := ⟨g, p, none⟩) hgb (.int .i64 ((addN 1 m1 (O.take k))[p] + 1)))
            clear hfr hcell hin hu hst hA9 hav
            rw [← hnx.out] at hset
            clear hnx
            generalize (addN 1 m1 (O.take k))[p] = u at *
            have qz : g < wr.heap.size := hgl
            have hbg : b1 ≠ g := by
              intro e
              have h1 := hb1
              have h2 := hgb
              omega
            have hbg2 : ¬ g = b1 := fun e => hbg e.symm
            by_cases hv : 1099511627776 < u + 1
            · have hfin := hid (hyes.out (by rw [hfu.out]; exact decide_eq_true hv))
              have hr2 := hid (show fireN n T m q = ([], 6) by rw [hr.out, if_neg (by rw [hfin.out]; simp)])
              clear hfu htk hyes hfin hr
              go_wp2_with fail
              go_ret2
              exact ⟨none, 0, by rw [hr2.out]; rfl, by rw [hr2.out]; exact SlR.nil, HB2.out.trans (hB9.out.mono HB2.out.size)⟩
            · have htk2 := hid (show (O.take (k + 1)).any (tooFull m1) = false by rw [htk.out, hfu.out]; exact decide_eq_false hv)
              clear hfu htk hyes
              go_wp2_with fail
              go_roundw
              case rel => exact ⟨k + 1, by omega, by go_num, hB9.out, by simpa using hsr, hset.out, htk2.out⟩
              case measure => simp [intOf]; omega
          · obtain rfl : k = O.length := by omega
            rw [List.take_length] at HOr HTF
            have hout := hid (show ∀ x ∈ addN 1 m1 O, I64 x from fun x hx => by
              have h1 := hOm.out O.length
              rw [List.take_length] at h1
              have := h1 x hx
              unfold I64
              omega)
            have hml2 := hid ((addN_len 1 O m1).trans hml.out)
            have hr2 := hid (show fireN n T m q = (addN 1 m1 O, 0) by rw [hr.out, if_pos HTF.out])
            generalize addN 1 m1 O = out at *
            obtain ⟨A9, c9, hv9, _, _, hsl⟩ := HOr.out.slr hout.out
            injection hv9 with hv9 hv9l hv9c
            subst hv9 hv9c
            have HS := hid hsl
            have HBf := hid (HB2.out.trans (hBr.mono HB2.out.size))
            clear hsl hBr hr
            go_wp2_with fail
            go_ret2
            exact ⟨A3, c3, by rw [hr2.out]; simp only; rw [hml2.out]; rfl, by rw [hr2.out]; exact HS.out, HBf.out⟩
end Go.Proofs.YteljfpcmpdpehaaGreatDoor
