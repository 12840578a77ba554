
/- Wire: the reader's lists of ints. -/
import Derived.Test.YtbefmjodpndndaaDoorWireQ
import Derived.Test.YtbefmjodpndndaaDoorMem
set_option linter.unusedSimpArgs false
set_option linter.unusedVariables false
namespace Go.Proofs.YtbefmjodpndndaaDoor
open Go.RowKit Go.IntWalk

theorem cell1_newK (W : World) (x : Int) : ∀ (j : Nat) (u : Value), ([x].map (Value.int .i64))[j]? = some u → (W.alloc (Obj.cells #[.int .i64 x] 3)).cell? ((⟨W.heap.size, 0, none⟩ : Addr).add j) = some u := by
  intro j u hu
  match j, hu with
  | 0, hu => simp at hu; subst hu; simp [Addr.add, go_sem]
  | j + 1, hu => simp at hu
theorem numL_less {l : List UInt8} {c : UInt8} {m v : Int} {r : List UInt8} (h : numL l c m = some (v, r)) : r.length < l.length := by
  unfold numL at h
  split at h
  · cases h
  · rename_i h0
    have hi := indexByte_lt (l.take 21) c (by omega)
    split at h
    · split at h
      · injection h with h
        injection h with h1 h2
        subst h2
        have : (l.take 21).length ≤ l.length := by simp; omega
        simp only [List.length_drop]
        omega
      · cases h
    · cases h
theorem numL_bd {l : List UInt8} {c : UInt8} {m v : Int} {r : List UInt8} (h : numL l c m = some (v, r)) : I64 v := by
  unfold numL at h
  split at h
  · cases h
  · split at h
    · rename_i hat
      split at h
      · injection h with h
        injection h with h1 h2
        subst h1
        exact Lib.atoiAll_bounds hat
      · cases h
    · cases h
theorem OwnI.keptb {w w' : World} {base b : Nat} {v : Value} {l : List Int} (h : OwnI w base v l) (hg : w.grownBy w' (some b)) (hb : b < base) : OwnI w' base v l := by
  refine ⟨h.1, ?_⟩
  rcases h.2 with h0 | ⟨g, cap, cur, hv, hgb, hbk, r⟩
  · exact .inl h0
  · exact .inr ⟨g, cap, cur, hv, hgb, (hg.block g (Array.getElem?_eq_some_iff.1 hbk).1 (by intro e; injection e with e; omega)).trans hbk, r⟩
theorem OwnI.row {w : World} {base : Nat} {v : Value} {l : List Int} (h : OwnI w base v l) : ∀ k, v.ownBlock = some k → base ≤ k := by
  intro k hk
  rcases h.2 with ⟨rfl, _⟩ | ⟨g, cap, cur, rfl, hgb, _⟩
  · simp [Value.ownBlock] at hk
  · have : g = k := by simpa [Value.ownBlock] using hk
    omega
theorem grown_far {w w1 w2 : World} {r row : Option Nat} (h : w.grownBy w1 r) (h2 : w1.grownBy w2 row) (hr : ∀ k, row = some k → w.heap.size ≤ k) : w.grownBy w2 r :=
  ⟨h2.os.trans h.os, h2.tape.trans h.tape, h2.output.trans h.output, Nat.le_trans h.size h2.size, fun k hk hne => (h2.block k (Nat.lt_of_lt_of_le hk h.size) (fun e => by have := hr k e.symm; omega)).trans (h.block k hk hne)⟩
/-- A list's result. -/
def LiRes (w : World) (b : Nat) (r : Option (List Int × List UInt8)) (e : Ending) (w' : World) : Prop :=
  match r with
  | some (xs, l) => ∃ v, e = .returned v ∧ OwnI w' w.heap.size v xs ∧ Rd w' b l false ∧ w.grownBy w' (some b)
  | none => e = .returned (.slice none 0 0) ∧ Rd w' b [] true ∧ w.grownBy w' (some b)
abbrev fI : List UInt8 → Option (Int × List UInt8) := fun l => numL l 59 (-9223372036854775808)

end Go.Proofs.YtbefmjodpndndaaDoor
