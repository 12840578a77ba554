
/- Wire, plain: strings and lists that are written are read back. -/
import Derived.Test.YtbefmjodpndndaaDoorWireP
set_option linter.unusedSimpArgs false
set_option linter.unusedVariables false
namespace Go.Proofs.YtbefmjodpndndaaDoor
open Go.RowKit Go.IntWalk

theorem textL_encT (s rest : List UInt8) (h : s.length ≤ 1000000000000) : textL (encT s ++ rest) = some (s, rest) := by
  have e : encT s ++ rest = Lib.itoa s.length ++ 58 :: (s ++ 44 :: rest) := by simp [encT]
  have hn := numL_itoa (s.length : Int) ⟨by omega, by omega⟩ 58 0 (s ++ 44 :: rest) (by decide) (by omega)
  rw [textL, e, hn]
  simp [cutL]
  omega
/-- So many values, one after the other. -/
def itemsL {α : Type} (f : List UInt8 → Option (α × List UInt8)) : Nat → List UInt8 → Option (List α × List UInt8)
  | 0, l => some ([], l)
  | k + 1, l => match f l with
    | none => none
    | some (x, l1) => (itemsL f k l1).map fun r => (x :: r.1, r.2)
def listL {α : Type} (f : List UInt8 → Option (α × List UInt8)) (l : List UInt8) : Option (List α × List UInt8) :=
  match numL l 91 0 with
  | none => none
  | some (n, l1) => match itemsL f n.toNat l1 with
    | none => none
    | some (xs, l2) => (cutL l2 93).map fun r => (xs, r)
theorem itemsL_enc {α : Type} (f : List UInt8 → Option (α × List UInt8)) (enc : α → List UInt8) (rest : List UInt8) : ∀ (xs : List α), (∀ x ∈ xs, ∀ r, f (enc x ++ r) = some (x, r)) → itemsL f xs.length ((xs.map enc).flatten ++ rest) = some (xs, rest)
  | [], _ => rfl
  | x :: xs, h => by
    have ih := itemsL_enc f enc rest xs (fun y hy => h y (List.mem_cons_of_mem _ hy))
    rw [List.length_cons, List.map_cons, List.flatten_cons, List.append_assoc, itemsL, h x List.mem_cons_self]
    simp only [ih, Option.map_some]
theorem listL_enc {α : Type} (f : List UInt8 → Option (α × List UInt8)) (enc : α → List UInt8) (xs : List α) (rest : List UInt8) (hn : xs.length ≤ 1000000000000) (h : ∀ x ∈ xs, ∀ r, f (enc x ++ r) = some (x, r)) : listL f (encL (xs.map enc) ++ rest) = some (xs, rest) := by
  have e : encL (xs.map enc) ++ rest = Lib.itoa xs.length ++ 91 :: ((xs.map enc).flatten ++ 93 :: rest) := by simp [encL]
  have hnum := numL_itoa (xs.length : Int) ⟨by omega, by omega⟩ 91 0 ((xs.map enc).flatten ++ 93 :: rest) (by decide) (by omega)
  have hi := itemsL_enc f enc (93 :: rest) xs h
  rw [listL, e, hnum]
  simp only [Int.toNat_natCast, hi]
  simp [cutL]
theorem intL_enc (n : Int) (h : I64 n) (rest : List UInt8) : numL (encI n ++ rest) 59 (-9223372036854775808) = some (n, rest) := by
  rw [encI, List.append_assoc]
  exact numL_itoa n h 59 _ rest (by decide) h.1
end Go.Proofs.YtbefmjodpndndaaDoor
