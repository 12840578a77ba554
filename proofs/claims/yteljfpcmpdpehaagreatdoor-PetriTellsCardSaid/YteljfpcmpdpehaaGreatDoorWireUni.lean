
/- Wire: the reader's calls, each in one contract: what is read, and where the reader stands then (failed or not). -/
import Derived.Test.YteljfpcmpdpehaaGreatDoorWireR
import Derived.Test.YteljfpcmpdpehaaGreatDoorWireL
set_option linter.unusedSimpArgs false
set_option linter.unusedVariables false
namespace Go.Proofs.YteljfpcmpdpehaaGreatDoor
open Go.RowKit Go.IntWalk

theorem num_uni (l : List UInt8) (bad : Bool) (hl : l.length ≤ 1000000000000) : ∃ (v : Int) (l' : List UInt8) (bad' : Bool), 0 ≤ v ∧ I64 v ∧ l'.length ≤ l.length ∧
    (∀ (b : Nat) (W : World), Rd W b l bad → Env W → Calls Tryz.prog 36 #[.pointer (some ⟨b, 0, none⟩)] W fun e w' => e = .returned (.int .i64 v) ∧ Rd w' b l' bad' ∧ W.grownBy w' (some b)) ∧
    ((numL l 59 0 = some (v, l') ∧ bad' = bad) ∨ (numL l 59 0 = none ∧ v = 0 ∧ l' = [] ∧ bad' = true)) := by
  cases hr : numL l 59 0 with
  | none =>
    refine ⟨0, [], true, by omega, by simp [I64], by simp, fun b W h he => ?_, .inr ⟨rfl, rfl, rfl, rfl⟩⟩
    have := num_any b l bad W h hl he
    rw [hr] at this
    exact this
  | some x =>
    obtain ⟨v, l'⟩ := x
    refine ⟨v, l', bad, (numL_shorter hr).2, numL_bd hr, (numL_shorter hr).1, fun b W h he => ?_, .inl ⟨rfl, rfl⟩⟩
    have := num_any b l bad W h hl he
    rw [hr] at this
    exact this
theorem int_uni (l : List UInt8) (bad : Bool) (hl : l.length ≤ 1000000000000) : ∃ (v : Int) (l' : List UInt8) (bad' : Bool), I64 v ∧ l'.length ≤ l.length ∧
    (∀ (b : Nat) (W : World), Rd W b l bad → Env W → Calls Tryz.prog 35 #[.pointer (some ⟨b, 0, none⟩)] W fun e w' => e = .returned (.int .i64 v) ∧ Rd w' b l' bad' ∧ W.grownBy w' (some b)) ∧
    ((fI l = some (v, l') ∧ bad' = bad) ∨ (fI l = none ∧ v = 0 ∧ l' = [] ∧ bad' = true)) := by
  cases hr : numL l 59 (-9223372036854775808) with
  | none =>
    refine ⟨0, [], true, by simp [I64], by simp, fun b W h he => ?_, .inr ⟨hr, rfl, rfl, rfl⟩⟩
    have := int_any b l bad W h hl he
    rw [hr] at this
    exact this
  | some x =>
    obtain ⟨v, l'⟩ := x
    refine ⟨v, l', bad, numL_bd hr, (numL_shorter hr).1, fun b W h he => ?_, .inl ⟨hr, rfl⟩⟩
    have := int_any b l bad W h hl he
    rw [hr] at this
    exact this
theorem nums_uni (l : List UInt8) (bad : Bool) (hl : l.length ≤ 1000000000000) (hbad : bad = true → l = []) : ∃ (xs : List Int) (l' : List UInt8) (bad' : Bool), (∀ x ∈ xs, I64 x) ∧ xs.length ≤ l.length ∧ l'.length ≤ l.length ∧
    (∀ (b : Nat) (w0 W : World), Rd W b l bad → Env w0 → w0.heap.size ≤ b → Below w0.heap.size w0 W → Calls Tryz.prog 38 #[.pointer (some ⟨b, 0, none⟩)] W fun e w' => ∃ A c, e = .returned (.slice A xs.length c) ∧ xs.length ≤ c ∧ c ≤ maxLen ∧ OwnI w' W.heap.size (.slice A xs.length c) xs ∧ SlR w' w'.heap.size A xs ∧ Rd w' b l' bad' ∧ W.grownBy w' (some b)) ∧
    ((listL fI l = some (xs, l') ∧ bad' = bad) ∨ (listL fI l = none ∧ xs = [] ∧ l' = [] ∧ bad' = true)) := by
  cases hr : listL fI l with
  | none =>
    refine ⟨[], [], true, by simp, by simp, by simp, fun b w0 W h he hb hB => ?_, .inr ⟨rfl, rfl, rfl, rfl⟩⟩
    have := numsR_any w0 he b hb l bad W hB h hbad hl
    rw [hr] at this
    refine this.mono ?_
    rintro e w' ⟨rfl, h1, h2⟩
    exact ⟨none, 0, rfl, by simp, by simp [maxLen], OwnI.nil _ _, SlR.nil, h1, h2⟩
  | some x =>
    obtain ⟨xs, l'⟩ := x
    have hbd := listI_bd hr
    have hb0 : bad = false := by
      cases bad with
      | false => rfl
      | true => rw [hbad rfl] at hr; simp [listL, numL, Lib.indexByte] at hr
    subst hb0
    refine ⟨xs, l', false, hbd.1, listI_len hr, hbd.2, fun b w0 W h he hb hB => ?_, .inl ⟨rfl, rfl⟩⟩
    have := numsR_any w0 he b hb l false W hB h hbad hl
    rw [hr] at this
    refine this.mono ?_
    rintro e w' ⟨v, rfl, ho, h1, h2⟩
    obtain ⟨A, c, rfl, h3, h4, h5⟩ := ho.slr hbd.1
    exact ⟨A, c, rfl, h3, h4, ho, h5, h1, h2⟩
theorem grown_cell {w w' : World} {b : Nat} (h : w.grownBy w' (some b)) (k o : Nat) (hk : k < w.heap.size) (hne : k ≠ b) : w'.cell? ⟨k, o, none⟩ = w.cell? ⟨k, o, none⟩ :=
  cell_kept (p := ⟨k, o, none⟩) (h.block k hk (by intro e; injection e with e; exact hne e))
theorem bg {w0 w w' : World} {b : Nat} (h : Below w0.heap.size w0 w) (hg : w.grownBy w' (some b)) (hb : w0.heap.size ≤ b) : Below w0.heap.size w0 w' := h.grown hg h.size (fun k e => by injection e with e; omega)
end Go.Proofs.YteljfpcmpdpehaaGreatDoor
