
/- Robots, plain: a mind's encoding, and what is read. -/
import Derived.Test.YtnnephifjikkdaaGreatDoorRobC
import Derived.Test.YtnnephifjikkdaaGreatDoorWireR
set_option linter.unusedSimpArgs false
set_option linter.unusedVariables false
namespace Go.Proofs.YtnnephifjikkdaaGreatDoor
open Go.RowKit Go.IntWalk

def encM (c : Int) (q : List Int) : List UInt8 := encI c ++ encL (q.map encI)
def readM (s : List UInt8) : Option (Int × List Int × List UInt8) :=
  match fI s with
  | none => none
  | some (c, s1) => match listL fI s1 with
    | none => none
    | some (q, s2) => some (c, q, s2)
theorem readM_enc (c : Int) (q : List Int) (hc : I64 c) (hq : ∀ x ∈ q, I64 x) (hn : q.length ≤ 1000000000000) : readM (encM c q) = some (c, q, []) := by
  have h1 : fI (encM c q) = some (c, encL (q.map encI)) := intL_enc c hc _
  have h2 : listL fI (encL (q.map encI)) = some (q, []) := by
    have := listL_enc fI encI q [] hn (fun x hx r => intL_enc x (hq x hx) r)
    rwa [List.append_nil] at this
  unfold readM
  rw [h1]
  simp only [h2]
theorem readM_split {s : List UInt8} {c : Int} {q : List Int} {r : List UInt8} (h : readM s = some (c, q, r)) : s = encM c q ++ r ∧ I64 c ∧ (∀ x ∈ q, I64 x) ∧ q.length ≤ s.length := by
  unfold readM at h
  split at h
  · cases h
  · rename_i c1 s1 h1
    split at h
    · cases h
    · rename_i q1 s2 h2
      simp only [Option.some.injEq, Prod.mk.injEq] at h
      obtain ⟨rfl, rfl, rfl⟩ := h
      have e1 := fI_split _ _ _ h1
      have e2 := listL_split (enc := encI) fI_split h2
      have e3 := listI_len h2
      have e4 := (numL_shorter h1).1
      refine ⟨?_, numL_bd h1, (listI_bd h2).1, by omega⟩
      rw [e1, e2, encM, List.append_assoc]
/-- What Read makes of a string. -/
def readMR (W H D : Int) (kind out : List Int) (s : List UInt8) : Option (Int × List Int) :=
  match readM s with
  | some (c, q, r) => if r = [] ∧ rightM W H D kind out c q = true then some (c, q) else none
  | none => none
theorem readMR_some {W H D : Int} {kind out : List Int} {s : List UInt8} {c : Int} {q : List Int} (h : readMR W H D kind out s = some (c, q)) : rightM W H D kind out c q = true ∧ encM c q = s := by
  unfold readMR at h
  split at h
  · rename_i c1 q1 r h1
    split at h
    · rename_i hc
      simp only [Option.some.injEq, Prod.mk.injEq] at h
      obtain ⟨rfl, rfl⟩ := h
      have := (readM_split h1).1
      rw [hc.1, List.append_nil] at this
      exact ⟨hc.2, this.symm⟩
    · cases h
  · cases h
theorem readMR_enc {W H D : Int} {kind out : List Int} {c : Int} {q : List Int} (h : rightM W H D kind out c q = true) (hc : I64 c) (hq : ∀ x ∈ q, I64 x) (hn : q.length ≤ 1000000000000) : readMR W H D kind out (encM c q) = some (c, q) := by
  unfold readMR
  rw [readM_enc c q hc hq hn]
  simp [h]
theorem encM_len (c : Int) (q : List Int) (hc : I64 c) (hq : ∀ x ∈ q, I64 x) (n : Nat) (hn : q.length ≤ n) (hb : n ≤ 1000000) : (encM c q).length ≤ n * 22 + 100 := by
  have li : ∀ n : Int, I64 n → (encI n).length ≤ 22 := by
    intro n hn
    have := Lib.itoa_length_le n hn.1 hn.2
    simp [encI]; omega
  have fb : ∀ (es : List (List UInt8)), (∀ y ∈ es, y.length ≤ 22) → es.flatten.length ≤ es.length * 22 := by
    intro es
    induction es with
    | nil => intro _; simp
    | cons y es ih =>
      intro h
      have h1 := ih (fun z hz => h z (List.mem_cons_of_mem _ hz))
      have h2 := h y List.mem_cons_self
      rw [List.flatten_cons, List.length_append, List.length_cons, Nat.succ_mul]
      omega
  have h1 := li c hc
  have h3 := fb (q.map encI) (by
    intro y hy
    obtain ⟨x, hx, rfl⟩ := List.mem_map.1 hy
    exact li x (hq x hx))
  have h5 := Lib.itoa_length_le ((q.map encI).length : Int) (by omega) (by rw [List.length_map]; omega)
  rw [List.length_map] at h3
  unfold encM encL
  simp only [List.length_append, List.length_cons, List.length_nil]
  omega
end Go.Proofs.YtnnephifjikkdaaGreatDoor
