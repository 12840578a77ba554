
/- Wire, the reference: the reader's calls as functions; what is read without failing is what was written. -/
import Derived.Test.YtbefmjodpndndaaDoorEncA
import Derived.Test.YtbefmjodpndndaaDoorWireUr
set_option linter.unusedSimpArgs false
set_option linter.unusedVariables false
namespace Go.Proofs.YtbefmjodpndndaaDoor
open Go.RowKit Go.IntWalk

/-! ### What is read without failing -/
theorem rN_split {s : RS} (h : (rN s).2.2 = false) : s.2 = false ∧ s.1 = encI (rN s).1 ++ (rN s).2.1 := by
  unfold rN at h ⊢
  split at h
  · rename_i v l hn
    simp only [hn]
    refine ⟨h, ?_⟩
    have := numL_split hn
    rw [this]; simp [encI]
  · cases h
theorem rI_split {s : RS} (h : (rI s).2.2 = false) : s.2 = false ∧ s.1 = encI (rI s).1 ++ (rI s).2.1 := by
  unfold rI at h ⊢
  split at h
  · rename_i v l hn
    simp only [hn]
    refine ⟨h, ?_⟩
    have := numL_split hn
    rw [this]; simp [encI]
  · cases h
theorem rT_split {s : RS} (h : (rT s).2.2 = false) : s.2 = false ∧ s.1 = encT (rT s).1 ++ (rT s).2.1 := by
  unfold rT at h ⊢
  split at h
  · rename_i v l hn
    simp only [hn]
    exact ⟨h, textL_split hn⟩
  · cases h
theorem r3_split {s : RS} (h : (r3 s).2.2 = false) : s.2 = false ∧ s.1 = enc3 (r3 s).1 ++ (r3 s).2.1 := by
  unfold r3 at h ⊢
  simp only at h ⊢
  obtain ⟨h1, e1⟩ := rI_split h
  obtain ⟨h2, e2⟩ := rI_split h1
  obtain ⟨h3, e3⟩ := rI_split h2
  refine ⟨h3, ?_⟩
  unfold enc3
  simp only
  rw [List.append_assoc, List.append_assoc, ← e1, ← e2, ← e3]
theorem rWhile_split {α : Type} {f : RS → α × RS} {enc : α → List UInt8} (hf : ∀ s, (f s).2.2 = false → s.2 = false ∧ s.1 = enc (f s).1 ++ (f s).2.1) : ∀ (n : Nat) (s : RS), (rWhile f n s).2.2 = false → s.2 = false ∧ s.1 = ((rWhile f n s).1.map enc).flatten ++ (rWhile f n s).2.1
  | 0, s, h => by simp [rWhile] at h ⊢; exact h
  | n + 1, s, h => by
    unfold rWhile at h ⊢
    split at h
    · rename_i h0; rw [if_pos h0]; exact ⟨h, by simp⟩
    · rename_i h0
      rw [if_neg h0]
      simp only at h ⊢
      obtain ⟨h1, e1⟩ := rWhile_split hf n _ h
      obtain ⟨h2, e2⟩ := hf _ h1
      refine ⟨h2, ?_⟩
      rw [List.map_cons, List.flatten_cons, List.append_assoc, ← e1, ← e2]
theorem rWhile_map {α β : Type} (f : RS → α × RS) (g : α → β) : ∀ (n : Nat) (s : RS), rWhile (fun s => (g (f s).1, (f s).2)) n s = ((rWhile f n s).1.map g, (rWhile f n s).2)
  | 0, _ => rfl
  | n + 1, s => by
    unfold rWhile
    split
    · rfl
    · simp only [rWhile_map f g n, List.map_cons]
end Go.Proofs.YtbefmjodpndndaaDoor
