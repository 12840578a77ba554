
/- Seam, plain: what a desk holds stays right; robots that are written are read back. -/
import Derived.Test.YtfofmbmmighdiaaDoorSeamI
import Derived.Test.YtfofmbmmighdiaaDoorSeamG
set_option linter.unusedSimpArgs false
set_option linter.unusedVariables false
namespace Go.Proofs.YtfofmbmmighdiaaDoor
open Go.RowKit Go.IntWalk

/-- A robot's numbers are right, the number at most M. -/
structure RobOK (M : Int) (r : Rob) : Prop where
  p : 0 ≤ r.1 ∧ r.1 ≤ 2
  n : 0 ≤ r.2.1 ∧ r.2.1 ≤ M
  f : r.2.2 = true → r.1 = 0
theorem RobOK.mono {M M' : Int} {r : Rob} (h : RobOK M r) (hM : M ≤ M') : RobOK M' r := ⟨h.p, ⟨h.n.1, Int.le_trans h.n.2 hM⟩, h.f⟩
theorem robOK_zero (M : Int) (h : 0 ≤ M) : RobOK M (0, 0, false) := ⟨by simp, by simpa using h, by simp⟩
theorem getR_ok {M : Int} {rs : List Rob} (hM : 0 ≤ M) (h : ∀ r ∈ rs, RobOK M r) (i : Int) : RobOK M (getR rs i) := by
  by_cases hi : i < 0 ∨ (rs.length : Int) ≤ i
  · rw [getR_no hi]; exact robOK_zero M hM
  · obtain ⟨k, rfl⟩ : ∃ k : Nat, i = k := ⟨i.toNat, by omega⟩
    have hk : k < rs.length := by omega
    rw [getR_yes hk]
    exact h _ (List.getElem_mem hk)
theorem setR_ok {M : Int} {rs : List Rob} {r : Rob} (h : ∀ x ∈ rs, RobOK M x) (hr : RobOK M r) (i : Int) : ∀ x ∈ setR rs i r, RobOK M x := by
  unfold setR
  split
  · intro x hx
    rcases List.mem_or_eq_of_mem_set hx with hx | hx
    · exact h x hx
    · rw [hx]; exact hr
  · exact h
theorem offered_ok {M : Int} {r : Rob} (h : RobOK M r) (no : Int) (take : Bool) (hno : no ≤ M) : RobOK M (offeredL r no take).1 := by
  have hn := h.n
  unfold offeredL
  split
  · exact h
  · split
    · split
      · exact h
      · split
        · exact ⟨by simp, ⟨by simp; omega, by simpa using hno⟩, by simp⟩
        · exact ⟨by simp, ⟨by simp; omega, by simpa using hno⟩, by simp⟩
    · split
      · exact h
      · split <;> exact h
theorem taken_ok {M : Int} {r : Rob} (h : RobOK M r) (no : Int) : RobOK M (takenL r no) := by
  unfold takenL
  split
  · rename_i hc
    refine ⟨by simp, ?_, by simp⟩
    rw [← hc.2]; exact h.n
  · exact h
theorem kept_ok {M : Int} {r : Rob} (h : RobOK M r) (no : Int) : RobOK M (keptL r no) := by
  unfold keptL
  split
  · rename_i hc
    refine ⟨by simp, h.n, ?_⟩
    intro hf
    have := h.f hf
    rw [hc.1] at this
    cases this
  · exact h
theorem hearL_ok {M : Int} {rs : List Rob} (hM : 0 ≤ M) (h : ∀ r ∈ rs, RobOK M r) (p : Pas) (take : Bool) (hno : p.2.2 ≤ M) : ∀ r ∈ (hearL rs p take).1, RobOK M r := by
  have hg := getR_ok hM h p.2.1
  unfold hearL
  split
  · exact h
  · split
    · exact setR_ok h (offered_ok hg _ _ hno) _
    · split
      · exact setR_ok h (taken_ok hg _) _
      · split
        · exact setR_ok h (kept_ok hg _) _
        · exact h
theorem offerL_ok {M : Int} {rs : List Rob} (hM : 0 ≤ M) (h : ∀ r ∈ rs, RobOK M r) (i : Int) : ∀ r ∈ (offerL rs i).1, RobOK (M + 1) r := by
  have hg := getR_ok hM h i
  have h1 : ∀ r ∈ rs, RobOK (M + 1) r := fun r hr => (h r hr).mono (by omega)
  unfold offerL
  split
  · exact h1
  · split
    · exact h1
    · rename_i hp
      refine setR_ok h1 ⟨by simp, ?_, ?_⟩ i
      · have := hg.n; simp; omega
      · intro hf
        have := hg.f hf
        simp only [ne_eq, Decidable.not_not] at hp
        rw [this] at hp
        cases hp
theorem doL_ok {M : Int} {rs : List Rob} (hM : 0 ≤ M) (h : ∀ r ∈ rs, RobOK M r) (o : Opp) (hno : o.2.1.2.2 ≤ M) : ∀ r ∈ doL rs o, RobOK (M + 1) r := by
  unfold doL
  split
  · exact offerL_ok hM h _
  · split
    · exact fun r hr => (hearL_ok hM h _ _ hno r hr).mono (by omega)
    · exact fun r hr => (h r hr).mono (by omega)
theorem doL_len (rs : List Rob) (o : Opp) : (doL rs o).length = rs.length := by
  have h1 : ∀ i, (offerL rs i).1.length = rs.length := by
    intro i; unfold offerL; split
    · rfl
    · split
      · rfl
      · simp [setR_len]
  have h2 : ∀ p t, (hearL rs p t).1.length = rs.length := by
    intro p t; unfold hearL; split
    · rfl
    · split
      · simp [setR_len]
      · split
        · simp [setR_len]
        · split
          · simp [setR_len]
          · rfl
  unfold doL
  split
  · exact h1 _
  · split
    · exact h2 _ _
    · rfl
/-- A robot read. -/
def readRb (s : List UInt8) : Option (Rob × List UInt8) :=
  match fI s with
  | none => none
  | some (p, s1) => match fI s1 with
    | none => none
    | some (n, s2) => match fI s2 with
      | none => none
      | some (f, s3) => some ((p, n, decide (f = 1)), s3)
theorem readRb_enc (r : Rob) (h : RobI r) (s : List UInt8) : readRb (encRb r ++ s) = some (r, s) := by
  have e1 : fI (encRb r ++ s) = some (r.1, encI r.2.1 ++ (encI (fb r.2.2) ++ s)) := by
    unfold encRb
    rw [List.append_assoc, List.append_assoc]
    exact intL_enc r.1 h.1 _
  have e2 : fI (encI r.2.1 ++ (encI (fb r.2.2) ++ s)) = some (r.2.1, encI (fb r.2.2) ++ s) := intL_enc r.2.1 h.2 _
  have e3 : fI (encI (fb r.2.2) ++ s) = some (fb r.2.2, s) := intL_enc _ (by unfold fb I64; split <;> omega) s
  unfold readRb
  rw [e1]
  simp only [e2, e3]
  obtain ⟨p, n, f⟩ := r
  cases f <;> simp [fb]
/-- A desk's encoding, read. -/
theorem readD_enc (me : Int) (rs : List Rob) (hme : I64 me) (h : ∀ r ∈ rs, RobI r) (hn : rs.length ≤ 10000) :
    fI (encD me rs) = some (me, encI rs.length ++ (rs.map encRb).flatten) ∧ numL (encI rs.length ++ (rs.map encRb).flatten) 59 0 = some ((rs.length : Int), (rs.map encRb).flatten) ∧ itemsL readRb rs.length (rs.map encRb).flatten = some (rs, []) := by
  refine ⟨?_, ?_, ?_⟩
  · unfold encD encDh
    rw [List.append_assoc]
    exact intL_enc me hme _
  · have e : encI rs.length ++ (rs.map encRb).flatten = Lib.itoa rs.length ++ 59 :: (rs.map encRb).flatten := by simp [encI]
    rw [e]
    exact numL_itoa _ ⟨by omega, by omega⟩ 59 0 _ (by decide) (by omega)
  · have := itemsL_enc readRb encRb [] rs (fun x hx r => readRb_enc x (h x hx) r)
    rwa [List.append_nil] at this
end Go.Proofs.YtfofmbmmighdiaaDoor
