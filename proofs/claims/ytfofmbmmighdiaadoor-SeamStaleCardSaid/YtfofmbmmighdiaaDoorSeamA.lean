
/- Seam: desks in memory; find, Phase, No, Me, Robots. -/
import Derived.Test.YtfofmbmmighdiaaDoorBase
import Derived.Test.YtfofmbmmighdiaaDoorMem
import Derived.Laws.OwnMore
set_option linter.unusedSimpArgs false
set_option linter.unusedVariables false
namespace Go.Proofs.YtfofmbmmighdiaaDoor
open Go.RowKit Go.IntWalk

/-- A robot as a desk knows it: phase, number, refused. -/
abbrev Rob := Int × Int × Bool
def rc : List Rob → List Value
  | [] => []
  | r :: l => .int .i64 r.1 :: .int .i64 r.2.1 :: .bool r.2.2 :: rc l
theorem rc_len (l : List Rob) : (rc l).length = l.length * 3 := by
  induction l with
  | nil => rfl
  | cons r l ih => simp [rc, ih]; omega
theorem rc_at : ∀ (l : List Rob) (i : Nat) (h : i < l.length), (rc l)[i * 3]? = some (.int .i64 l[i].1) ∧ (rc l)[i * 3 + 1]? = some (.int .i64 l[i].2.1) ∧ (rc l)[i * 3 + 2]? = some (.bool l[i].2.2)
  | r :: l, 0, _ => by simp [rc]
  | r :: l, i + 1, h => by
    have ih := rc_at l i (by simpa using h)
    rw [show (i + 1) * 3 = i * 3 + 1 + 1 + 1 by omega]
    simpa [rc] using ih
theorem rc_set : ∀ (l : List Rob) (i : Nat) (r : Rob), i < l.length → rc (l.set i r) = (((rc l).set (i * 3) (.int .i64 r.1)).set (i * 3 + 1) (.int .i64 r.2.1)).set (i * 3 + 2) (.bool r.2.2)
  | x :: l, 0, r, _ => by simp [rc]
  | x :: l, i + 1, r, h => by
    have ih := rc_set l i r (by simpa using h)
    rw [show (i + 1) * 3 = i * 3 + 1 + 1 + 1 by omega]
    simp [rc, ih]
theorem rc_app (a b : List Rob) : rc (a ++ b) = rc a ++ rc b := by
  induction a with
  | nil => rfl
  | cons r a ih => simp [rc, ih]

/-- Block b is a desk; its robots lie in a row of the call's own. -/
structure Dk (w : World) (base b : Nat) (v : Value) (me : Int) (rs : List Rob) : Prop where
  d : Blk w b 83 #[.int .i64 me, v]
  r : w.ownsRow base 85 3 v rs.length (rc rs)
theorem Dk.row {w : World} {base b : Nat} {v : Value} {me : Int} {rs : List Rob} (h : Dk w base b v me rs) : ∃ A c, v = .slice A rs.length c ∧ rs.length ≤ c ∧ c ≤ maxLen ∧ (rs ≠ [] → ∃ g, A = some ⟨g, 0, none⟩ ∧ base ≤ g ∧ g < w.heap.size ∧ g ≠ b) := by
  rcases h.r.2 with ⟨hv, hn⟩ | ⟨g, cap, cur, hv, hg, hh, hc, hm, _⟩
  · have : rs = [] := List.eq_nil_of_length_eq_zero hn
    subst this
    exact ⟨none, 0, hv, Nat.le_refl _, Nat.zero_le _, fun h => absurd rfl h⟩
  · refine ⟨some ⟨g, 0, none⟩, cap, hv, hc, hm, fun _ => ⟨g, rfl, hg, (Array.getElem?_eq_some_iff.1 hh).1, ?_⟩⟩
    rintro rfl
    exact Blk.ne_ (t := 85) hh h.d (by decide) rfl
/-- What is known of the robot with the number i. -/
theorem Dk.at_ {w : World} {base b g c : Nat} {me : Int} {rs : List Rob} (h : Dk w base b (.slice (some ⟨g, 0, none⟩) rs.length c) me rs) {i : Nat} (hi : i < rs.length) :
    w.cell? ⟨g, i * 3, none⟩ = some (.int .i64 rs[i].1) ∧ w.cell? ⟨g, i * 3 + 1, none⟩ = some (.int .i64 rs[i].2.1) ∧ w.cell? ⟨g, i * 3 + 2, none⟩ = some (.bool rs[i].2.2) ∧ (∀ j, w.frozen? ⟨g, j, none⟩ = false) := by
  obtain ⟨h0, h1, h2⟩ := rc_at rs i hi
  have hl := rc_len rs
  refine ⟨?_, ?_, ?_, fun j => h.r.frozenAt j⟩
  · rw [h.r.cellAt (i * 3) (by omega)]; exact h0
  · rw [h.r.cellAt (i * 3 + 1) (by omega)]; exact h1
  · rw [h.r.cellAt (i * 3 + 2) (by omega)]; exact h2
theorem Dk.grown {w w' : World} {base b : Nat} {v : Value} {me : Int} {rs : List Rob} {row : Option Nat} (h : Dk w base b v me rs) (hg : w.grownBy w' row) (h1 : v.ownBlock = none ∨ v.ownBlock ≠ row) (h2 : some b ≠ row) : Dk w' base b v me rs :=
  ⟨h.d.grown hg h2, h.r.kept hg h1⟩
theorem grown_b0 {w w1 : World} {r : Option Nat} (h : Below w.heap.size w w1) : w.grownBy w1 r := ⟨h.os, h.tape, h.output, h.size, fun k hk _ => h.block k hk⟩
theorem Dk.below {w w' : World} {base b : Nat} {v : Value} {me : Int} {rs : List Rob} (h : Dk w base b v me rs) (hb : Below w.heap.size w w') : Dk w' base b v me rs :=
  h.grown (row := none) (grown_b0 hb) (by cases v.ownBlock <;> simp) (by simp)
theorem rc_set1 : ∀ (l : List Rob) (i : Nat) (p : Int) (h : i < l.length), rc (l.set i (p, l[i].2.1, l[i].2.2)) = (rc l).set (i * 3) (.int .i64 p)
  | x :: l, 0, p, _ => by simp [rc]
  | x :: l, i + 1, p, h => by
    have ih := rc_set1 l i p (by simpa using h)
    rw [show (i + 1) * 3 = i * 3 + 1 + 1 + 1 by omega]
    simpa [rc] using ih
theorem rc_set2 : ∀ (l : List Rob) (i : Nat) (n : Int) (h : i < l.length), rc (l.set i (l[i].1, n, l[i].2.2)) = (rc l).set (i * 3 + 1) (.int .i64 n)
  | x :: l, 0, p, _ => by simp [rc]
  | x :: l, i + 1, p, h => by
    have ih := rc_set2 l i p (by simpa using h)
    rw [show (i + 1) * 3 = i * 3 + 1 + 1 + 1 by omega]
    simpa [rc] using ih
section
variable {w : World} {base b g c : Nat} {me : Int} {rs : List Rob}
theorem Dk.gne (h : Dk w base b (.slice (some ⟨g, 0, none⟩) rs.length c) me rs) (hn : 0 < rs.length) : g ≠ b ∧ base ≤ g ∧ g < w.heap.size := by
  obtain ⟨A, c', hv, _, _, hg⟩ := h.row
  obtain ⟨g', hA, h1, h2, h3⟩ := hg (by intro h; simp [h] at hn)
  subst hA
  simp only [Value.slice.injEq, Option.some.injEq, Addr.mk.injEq] at hv
  obtain ⟨⟨rfl, _⟩, _⟩ := hv
  exact ⟨h3, h1, h2⟩
/-- One robot's phase, number, or all of it, is written. -/
theorem Dk.set1 (h : Dk w base b (.slice (some ⟨g, 0, none⟩) rs.length c) me rs) {i : Nat} (hi : i < rs.length) (p : Int) :
    Dk (w.setCell ⟨g, i * 3, none⟩ (.int .i64 p)) base b (.slice (some ⟨g, 0, none⟩) rs.length c) me (rs.set i (p, rs[i].2.1, rs[i].2.2)) ∧ w.grownBy (w.setCell ⟨g, i * 3, none⟩ (.int .i64 p)) (some g) := by
  have h1 := h.r.stored (i * 3) (.int .i64 p)
  have hne := (h.gne (by omega)).1
  refine ⟨⟨h.d.far (by simpa using hne.symm) _, ?_⟩, h1.2⟩
  rw [rc_set1 rs i p hi, List.length_set]
  exact h1.1
theorem Dk.set2 (h : Dk w base b (.slice (some ⟨g, 0, none⟩) rs.length c) me rs) {i : Nat} (hi : i < rs.length) (n : Int) :
    Dk (w.setCell ⟨g, i * 3 + 1, none⟩ (.int .i64 n)) base b (.slice (some ⟨g, 0, none⟩) rs.length c) me (rs.set i (rs[i].1, n, rs[i].2.2)) ∧ w.grownBy (w.setCell ⟨g, i * 3 + 1, none⟩ (.int .i64 n)) (some g) := by
  have h1 := h.r.stored (i * 3 + 1) (.int .i64 n)
  have hne := (h.gne (by omega)).1
  refine ⟨⟨h.d.far (by simpa using hne.symm) _, ?_⟩, h1.2⟩
  rw [rc_set2 rs i n hi, List.length_set]
  exact h1.1
theorem grown_tr {w w1 w2 : World} {r : Option Nat} (h : w.grownBy w1 r) (h2 : w1.grownBy w2 r) : w.grownBy w2 r :=
  ⟨h2.os.trans h.os, h2.tape.trans h.tape, h2.output.trans h.output, Nat.le_trans h.size h2.size, fun k hk hne => (h2.block k (Nat.lt_of_lt_of_le hk h.size) hne).trans (h.block k hk hne)⟩
theorem Dk.set3 (h : Dk w base b (.slice (some ⟨g, 0, none⟩) rs.length c) me rs) {i : Nat} (hi : i < rs.length) (r : Rob) :
    Dk (((w.setCell ⟨g, i * 3, none⟩ (.int .i64 r.1)).setCell ⟨g, i * 3 + 1, none⟩ (.int .i64 r.2.1)).setCell ⟨g, i * 3 + 2, none⟩ (.bool r.2.2)) base b (.slice (some ⟨g, 0, none⟩) rs.length c) me (rs.set i r) ∧
    w.grownBy (((w.setCell ⟨g, i * 3, none⟩ (.int .i64 r.1)).setCell ⟨g, i * 3 + 1, none⟩ (.int .i64 r.2.1)).setCell ⟨g, i * 3 + 2, none⟩ (.bool r.2.2)) (some g) := by
  have h1 := h.r.stored (i * 3) (.int .i64 r.1)
  have h2 := h1.1.stored (i * 3 + 1) (.int .i64 r.2.1)
  have h3 := h2.1.stored (i * 3 + 2) (.bool r.2.2)
  have hne := (h.gne (by omega)).1
  refine ⟨⟨((h.d.far (by simpa using hne.symm) _).far (by simpa using hne.symm) _).far (by simpa using hne.symm) _, ?_⟩, grown_tr (grown_tr h1.2 h2.2) h3.2⟩
  rw [rc_set rs i r hi, List.length_set]
  exact h3.1
end
theorem dk2 {w : World} {base b : Nat} {v : Value} {me : Int} {rs : List Rob} (h : Dk w base b v me rs) : w.cell? ⟨b, 0, none⟩ = some (.int .i64 me) ∧ w.cell? ⟨b, 1, none⟩ = some v := ⟨h.d.cell 0, h.d.cell 1⟩
set_option maxRecDepth 100000 in
set_option maxHeartbeats 400000 in
theorem me_any {w : World} {base b : Nat} {v : Value} {me : Int} {rs : List Rob} (h : Dk w base b v me rs) : Calls Tryd.prog 25 #[.pointer (some ⟨b, 0, none⟩)] w fun e w' => e = .returned (.int .i64 me) ∧ w = w' := by
  obtain ⟨d0, d1⟩ := dk2 h
  go_enter Tryd.func25, Tryd.ntmps25
  go_wp2_with fail
  go_ret
  exact ⟨rfl, rfl⟩
set_option maxRecDepth 100000 in
set_option maxHeartbeats 400000 in
theorem robots_any {w : World} {base b : Nat} {v : Value} {me : Int} {rs : List Rob} (h : Dk w base b v me rs) : Calls Tryd.prog 26 #[.pointer (some ⟨b, 0, none⟩)] w fun e w' => e = .returned (.int .i64 rs.length) ∧ w = w' := by
  obtain ⟨A, c, rfl, _, _, _⟩ := h.row
  obtain ⟨d0, d1⟩ := dk2 h
  go_enter Tryd.func26, Tryd.ntmps26
  go_wp2_with fail
  go_ret
  exact ⟨rfl, rfl⟩
set_option maxRecDepth 100000 in
set_option maxHeartbeats 400000 in
theorem find_no {w : World} {base b : Nat} {v : Value} {me : Int} {rs : List Rob} (h : Dk w base b v me rs) (i : Int) (hi : i < 0 ∨ (rs.length : Int) ≤ i) : Calls Tryd.prog 56 #[.pointer (some ⟨b, 0, none⟩), .int .i64 i] w fun e w' => e = .returned (.pointer none) ∧ w = w' := by
  obtain ⟨A, c, rfl, _, _, _⟩ := h.row
  obtain ⟨d0, d1⟩ := dk2 h
  by_cases h0 : i < 0
  · clear hi
    go_enter Tryd.func56, Tryd.ntmps56
    go_wp2_with fail
    go_ret
    exact ⟨rfl, rfl⟩
  · have h1 : (rs.length : Int) ≤ i := by omega
    clear hi
    go_enter Tryd.func56, Tryd.ntmps56
    go_wp2_with fail
    go_ret
    exact ⟨rfl, rfl⟩
set_option maxRecDepth 100000 in
set_option maxHeartbeats 400000 in
theorem find_yes {w : World} {base b g c : Nat} {me : Int} {rs : List Rob} (h : Dk w base b (.slice (some ⟨g, 0, none⟩) rs.length c) me rs) (i : Nat) (hi : i < rs.length) : Calls Tryd.prog 56 #[.pointer (some ⟨b, 0, none⟩), .int .i64 i] w fun e w' => e = .returned (.pointer (some ⟨g, i * 3, none⟩)) ∧ w = w' := by
  obtain ⟨d0, d1⟩ := dk2 h
  have hi' : (i : Int) < rs.length := by omega
  go_enter Tryd.func56, Tryd.ntmps56
  go_wp2_with fail
  go_ret
  exact ⟨rfl, rfl⟩
/-- What a desk knows of a robot. -/
def getR (rs : List Rob) (i : Int) : Rob := if 0 ≤ i ∧ i < rs.length then rs.getD i.toNat (0, 0, false) else (0, 0, false)
theorem getR_yes {rs : List Rob} {i : Nat} (h : i < rs.length) : getR rs i = rs[i] := by
  unfold getR
  rw [if_pos ⟨by omega, by omega⟩]
  simp [List.getD, List.getElem?_eq_getElem h]
theorem getR_no {rs : List Rob} {i : Int} (h : i < 0 ∨ (rs.length : Int) ≤ i) : getR rs i = (0, 0, false) := by
  unfold getR; rw [if_neg (by omega)]
set_option maxRecDepth 100000 in
set_option maxHeartbeats 400000 in
theorem phase_any {w : World} {base b : Nat} {v : Value} {me : Int} {rs : List Rob} (h : Dk w base b v me rs) (i : Int) : Calls Tryd.prog 27 #[.pointer (some ⟨b, 0, none⟩), .int .i64 i] w fun e w' => e = .returned (.int .i64 (getR rs i).1) ∧ w = w' := by
  by_cases hi : i < 0 ∨ (rs.length : Int) ≤ i
  · have hr := hid (getR_no hi)
    go_enter Tryd.func27, Tryd.ntmps27
    go_wp2_with fail
    refine (find_no h i hi).mono ?_
    rintro e w' ⟨rfl, rfl⟩
    clear hi
    go_wp2_with fail
    go_ret
    exact ⟨ret_int (by rw [hr.out]), rfl⟩
  · obtain ⟨k, rfl⟩ : ∃ k : Nat, i = k := ⟨i.toNat, by omega⟩
    have hk : k < rs.length := by omega
    obtain ⟨A, c, rfl, _, _, hg⟩ := h.row
    obtain ⟨g, rfl, _, _, _⟩ := hg (by intro hh; simp [hh] at hk)
    have hr := hid (getR_yes hk)
    obtain ⟨x0, x1, x2, fz⟩ := h.at_ hk
    clear hi
    go_enter Tryd.func27, Tryd.ntmps27
    go_wp2_with fail
    refine (find_yes h k hk).mono ?_
    rintro e w' ⟨rfl, rfl⟩
    go_wp2_with fail
    go_ret
    exact ⟨ret_int (by rw [hr.out]), rfl⟩
set_option maxRecDepth 100000 in
set_option maxHeartbeats 400000 in
theorem no_any {w : World} {base b : Nat} {v : Value} {me : Int} {rs : List Rob} (h : Dk w base b v me rs) (i : Int) : Calls Tryd.prog 28 #[.pointer (some ⟨b, 0, none⟩), .int .i64 i] w fun e w' => e = .returned (.int .i64 (getR rs i).2.1) ∧ w = w' := by
  by_cases hi : i < 0 ∨ (rs.length : Int) ≤ i
  · have hr := hid (getR_no hi)
    go_enter Tryd.func28, Tryd.ntmps28
    go_wp2_with fail
    refine (find_no h i hi).mono ?_
    rintro e w' ⟨rfl, rfl⟩
    clear hi
    go_wp2_with fail
    go_ret
    exact ⟨ret_int (by rw [hr.out]), rfl⟩
  · obtain ⟨k, rfl⟩ : ∃ k : Nat, i = k := ⟨i.toNat, by omega⟩
    have hk : k < rs.length := by omega
    obtain ⟨A, c, rfl, _, _, hg⟩ := h.row
    obtain ⟨g, rfl, _, _, _⟩ := hg (by intro hh; simp [hh] at hk)
    have hr := hid (getR_yes hk)
    obtain ⟨x0, x1, x2, fz⟩ := h.at_ hk
    clear hi
    go_enter Tryd.func28, Tryd.ntmps28
    go_wp2_with fail
    refine (find_yes h k hk).mono ?_
    rintro e w' ⟨rfl, rfl⟩
    go_wp2_with fail
    go_ret
    exact ⟨ret_int (by rw [hr.out]), rfl⟩
end Go.Proofs.YtfofmbmmighdiaaDoor
