
/- Game: easier. -/
import Derived.Test.YtiaplhdgchbkkaaGamG
set_option linter.unusedSimpArgs false
set_option linter.unusedVariables false
namespace Go.Proofs.Ytiaplhdgchbkkaa
open Go.RowKit Go.IntWalk

def EasyAt (a b : List Int) (i : Nat) : Prop := ¬ (0 ≤ b.getD i 0 ∧ (a.getD i 0 < 0 ∨ b.getD i 0 < a.getD i 0))
/-- No rank of a is greater than that of b. -/
def Easy (a b : List Int) : Prop := a.length = b.length ∧ ∀ i, i < b.length → EasyAt a b i
set_option maxRecDepth 100000 in
set_option maxHeartbeats 2000000 in
theorem easier_any (A B : Option Addr) (c d : Nat) (a b : List Int) (w : World) (hl : a.length ≤ maxLen) (hm : b.length ≤ maxLen) (h1 : SlR w w.heap.size A a) (h2 : SlR w w.heap.size B b) :
    Calls Try.prog 26 #[.slice A a.length c, .slice B b.length d] w fun e w' => ∃ r, e = .returned (.bool r) ∧ (r = true ↔ Easy a b) ∧ Below w.heap.size w w' := by
  unfold maxLen at hl hm
  by_cases hne : a.length = b.length
  case neg =>
    have hne' : ¬ (a.length : Int) = b.length := by omega
    have hr := hid (show false = true ↔ Easy a b by simp [Easy, hne])
    clear hne
    go_enter Try.func26, Try.ntmps26
    go_wp2_with fail
    go_ret
    exact ⟨_, rfl, hr.out, Below.refl _ _⟩
  have HN := hid hne
  have hne' : (a.length : Int) = b.length := by omega
  clear hne
  go_enter Try.func26, Try.ntmps26
  go_wp2_with fail
  go_loopw [5] (fun i wr => ∃ k : Nat, k ≤ b.length ∧ i = .int .i64 k ∧ Below w.heap.size w wr ∧ ∀ i, i < k → EasyAt a b i) (fun i _ => b.length - (intOf i).toNat)
  case atStart => exact ⟨0, by omega, rfl, Below.refl _ _, fun i h => by omega⟩
  case round =>
    obtain ⟨k, hk, rfl, hB, ht⟩ := hrel
    have HB := hid hB
    have HT := hid ht
    by_cases hlt : k < b.length
    · have hlt' : (k : Int) < b.length := by omega
      have hkl : k < a.length := by have := HN.out; omega
      obtain ⟨b1, o1, rfl, hb1, c1, _⟩ := h1.int hkl
      obtain ⟨b2, o2, rfl, hb2, c2, _⟩ := h2.int hlt
      replace c1 := (bcell hB b1 _ hb1).trans c1
      replace c2 := (bcell hB b2 _ hb2).trans c2
      have z1 : b1 < wr.heap.size := by have := hB.size; omega
      have z2 : b2 < wr.heap.size := by have := hB.size; omega
      have HE := hid (show EasyAt a b k ↔ ¬ (0 ≤ b[k] ∧ (a[k] < 0 ∨ b[k] < a[k])) by simp [EasyAt, hlt, hkl])
      have HS := hid (fun (h : EasyAt a b k) => show ∀ i, i < k + 1 → EasyAt a b i from fun i hi => by
        rcases Nat.lt_or_ge i k with h' | h'
        · exact ht i h'
        · obtain rfl : i = k := by omega
          exact h)
      have HF := hid (fun (h : ¬ EasyAt a b k) => show false = true ↔ Easy a b from ⟨fun h => (by cases h), fun h' => absurd (h'.2 k hlt) h⟩)
      clear hB ht
      generalize a[k] = x at *
      generalize b[k] = y at *
      by_cases hy : 0 ≤ y
      · have dy : decide (0 ≤ y) = true := by simpa using hy
        by_cases hx : x < 0
        · have dx : decide (x < 0) = true := by simpa using hx
          as_aux_lemma =>
            go_wp2_with fail
            go_quiet (fail)
            go_wp2_with fail
            go_ret
            exact ⟨_, rfl, HF.out (fun h => (HE.out.1 h) ⟨by omega, .inl (by omega)⟩), below_drewN HB.out _⟩
        · have dx : decide (x < 0) = false := by simpa using hx
          by_cases hxy : y < x
          · have dxy : decide (y < x) = true := by simpa using hxy
            as_aux_lemma =>
              go_wp2_with fail
              go_quiet (fail)
              go_wp2_with fail
              go_ret
              exact ⟨_, rfl, HF.out (fun h => (HE.out.1 h) ⟨by omega, .inr (by omega)⟩), below_drewN HB.out _⟩
          · have dxy : decide (y < x) = false := by simpa using hxy
            as_aux_lemma =>
              go_wp2_with fail
              go_quiet (fail)
              go_wp2_with fail
              go_roundw
              case rel => exact ⟨k + 1, by omega, by go_num, below_drewN HB.out _, HS.out (HE.out.2 (fun h => by omega))⟩
              case measure => simp [intOf]; omega
      · have dy : decide (0 ≤ y) = false := by simpa using hy
        as_aux_lemma =>
          go_wp2_with fail
          go_quiet (fail)
          go_wp2_with fail
          go_roundw
          case rel => exact ⟨k + 1, by omega, by go_num, below_drewN HB.out _, HS.out (HE.out.2 (fun h => by omega))⟩
          case measure => simp [intOf]; omega
    · obtain rfl : k = b.length := by omega
      have hr := hid (show true = true ↔ Easy a b from ⟨fun _ => ⟨HN.out, HT.out⟩, fun _ => rfl⟩)
      clear hB ht
      go_wp2_with fail
      go_ret
      exact .inr ⟨rfl, hr.out.1 (by first | trivial | rfl), HB.out⟩
end Go.Proofs.Ytiaplhdgchbkkaa
