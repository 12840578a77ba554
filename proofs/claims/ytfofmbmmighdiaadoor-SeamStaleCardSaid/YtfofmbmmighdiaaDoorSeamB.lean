
/- Seam: a robot's answers to an offer, a taking, a refusal. -/
import Derived.Test.YtfofmbmmighdiaaDoorSeamA
set_option linter.unusedSimpArgs false
set_option linter.unusedVariables false
namespace Go.Proofs.YtfofmbmmighdiaaDoor
open Go.RowKit Go.IntWalk

def offeredL (r : Rob) (no : Int) (take : Bool) : Rob × Int × Int :=
  if no < r.2.1 then (r, -1, 0) else
  if r.2.1 < no then
    if r.1 = 1 then (r, -1, 7) else if take then ((1, no, false), 1, 0) else ((0, no, true), 2, 0)
  else if r.1 = 1 then (r, 1, 0) else if r.2.2 then (r, 2, 0) else (r, -1, 0)
def takenL (r : Rob) (no : Int) : Rob := if r.1 = 2 ∧ r.2.1 = no then (0, no, false) else r
def keptL (r : Rob) (no : Int) : Rob := if r.1 = 2 ∧ r.2.1 = no then (1, r.2.1, r.2.2) else r
/-- What a robot's call leaves: the answer, the error, and the desk with that robot anew. -/
def OfRes (w : World) (base b g c : Nat) (me : Int) (rs : List Rob) (i : Nat) (r : Rob × Int × Int) (e : Ending) (w' : World) : Prop :=
  e = .returned (.tuple #[.int .i64 r.2.1, .int .i64 r.2.2]) ∧ Dk w' base b (.slice (some ⟨g, 0, none⟩) rs.length c) me (rs.set i r.1) ∧ w.grownBy w' (some g)
theorem grown_r (w : World) (r : Option Nat) : w.grownBy w r := ⟨rfl, rfl, rfl, Nat.le_refl _, fun _ _ _ => rfl⟩
theorem ofRes_same {w : World} {base b g c : Nat} {me : Int} {rs : List Rob} {i : Nat} {k u : Int} (h : Dk w base b (.slice (some ⟨g, 0, none⟩) rs.length c) me rs) (hi : i < rs.length) {r : Rob × Int × Int} (hr : r = (rs[i], k, u)) {e : Ending} (he : e = .returned (.tuple #[.int .i64 k, .int .i64 u])) : OfRes w base b g c me rs i r e w := by
  subst hr
  refine ⟨he, ?_, grown_r _ _⟩
  rw [List.set_getElem_self]
  exact h
section
variable {w : World} {base b g c : Nat} {me : Int} {rs : List Rob}
set_option maxRecDepth 100000 in
set_option maxHeartbeats 1000000 in
theorem offered_any (h : Dk w base b (.slice (some ⟨g, 0, none⟩) rs.length c) me rs) (i : Nat) (hi : i < rs.length) (no : Int) (take : Bool) :
    Calls Tryd.prog 59 #[.pointer (some ⟨g, i * 3, none⟩), .int .i64 no, .bool take] w (OfRes w base b g c me rs i (offeredL rs[i] no take)) := by
  obtain ⟨x0, x1, x2, fz⟩ := h.at_ hi
  have f0 := fz (i * 3); have f1 := fz (i * 3 + 1); have f2 := fz (i * 3 + 2)
  clear fz
  have hz := (h.gne (by omega)).2.2
  obtain ⟨r, hr⟩ : ∃ r, r = rs[i] := ⟨_, rfl⟩
  have Hr := hid hr
  rw [← hr] at x0 x1 x2
  obtain ⟨p, n, f⟩ := r
  simp only at x0 x1 x2
  have H := hid h
  rw [← hr]
  clear h hr
  by_cases hlt : no < n
  · have hs := hid (show offeredL (p, n, f) no take = ((p, n, f), -1, 0) by simp [offeredL, hlt])
    go_enter Tryd.func59, Tryd.ntmps59
    go_wp2_with fail
    go_ret2
    exact ofRes_same H.out hi (by rw [hs.out, Hr.out]) rfl
  · by_cases hgt : n < no
    · by_cases hp : p = 1
      · subst hp
        have hs := hid (show offeredL (1, n, f) no take = ((1, n, f), -1, 7) by simp [offeredL, hlt, hgt])
        go_enter Tryd.func59, Tryd.ntmps59
        go_wp2_with fail
        go_ret2
        exact ofRes_same H.out hi (by rw [hs.out, Hr.out]) rfl
      · have hp1 : (p == 1) = false := by simpa using hp
        cases take with
        | true =>
          have hs := hid (show offeredL (p, n, f) no true = ((1, no, false), 1, 0) by simp [offeredL, hlt, hgt, hp])
          clear hp
          go_enter Tryd.func59, Tryd.ntmps59
          go_wp2_with fail
          go_ret2
          rw [hs.out]
          have := H.out.set3 hi (1, no, false)
          exact ⟨rfl, this.1, this.2⟩
        | false =>
          have hs := hid (show offeredL (p, n, f) no false = ((0, no, true), 2, 0) by simp [offeredL, hlt, hgt, hp])
          clear hp
          go_enter Tryd.func59, Tryd.ntmps59
          go_wp2_with fail
          go_ret2
          rw [hs.out]
          have := H.out.set3 hi (0, no, true)
          exact ⟨rfl, this.1, this.2⟩
    · have hgt' : no ≤ n := by omega
      by_cases hp : p = 1
      · subst hp
        have hs := hid (show offeredL (1, n, f) no take = ((1, n, f), 1, 0) by simp [offeredL, hlt, hgt])
        go_enter Tryd.func59, Tryd.ntmps59
        go_wp2_with fail
        go_ret2
        exact ofRes_same H.out hi (by rw [hs.out, Hr.out]) rfl
      · have hp1 : (p == 1) = false := by simpa using hp
        cases f with
        | true =>
          have hs := hid (show offeredL (p, n, true) no take = ((p, n, true), 2, 0) by simp [offeredL, hlt, hgt, hp])
          clear hp
          go_enter Tryd.func59, Tryd.ntmps59
          go_wp2_with fail
          go_ret2
          exact ofRes_same H.out hi (by rw [hs.out, Hr.out]) rfl
        | false =>
          have hs := hid (show offeredL (p, n, false) no take = ((p, n, false), -1, 0) by simp [offeredL, hlt, hgt, hp])
          clear hp
          go_enter Tryd.func59, Tryd.ntmps59
          go_wp2_with fail
          go_ret2
          exact ofRes_same H.out hi (by rw [hs.out, Hr.out]) rfl
set_option maxRecDepth 100000 in
set_option maxHeartbeats 1000000 in
theorem taken_any (h : Dk w base b (.slice (some ⟨g, 0, none⟩) rs.length c) me rs) (i : Nat) (hi : i < rs.length) (no : Int) (take : Bool) :
    Calls Tryd.prog 60 #[.pointer (some ⟨g, i * 3, none⟩), .int .i64 no, .bool take] w (OfRes w base b g c me rs i (takenL rs[i] no, -1, 0)) := by
  obtain ⟨x0, x1, x2, fz⟩ := h.at_ hi
  have f0 := fz (i * 3); have f1 := fz (i * 3 + 1); have f2 := fz (i * 3 + 2)
  clear fz
  have hz := (h.gne (by omega)).2.2
  obtain ⟨r, hr⟩ : ∃ r, r = rs[i] := ⟨_, rfl⟩
  have Hr := hid hr
  rw [← hr] at x0 x1 x2
  obtain ⟨p, n, f⟩ := r
  simp only at x0 x1 x2
  have H := hid h
  rw [← hr]
  clear h hr
  by_cases hp : p = 2
  · subst hp
    by_cases hn : n = no
    · subst hn
      have hs := hid (show takenL (2, n, f) n = (0, n, false) by simp [takenL])
      go_enter Tryd.func60, Tryd.ntmps60
      go_wp2_with fail
      go_ret2
      rw [hs.out]
      have := H.out.set3 hi (0, n, false)
      exact ⟨rfl, this.1, this.2⟩
    · have hs := hid (show takenL (2, n, f) no = (2, n, f) by simp [takenL, hn])
      have hn1 : (n == no) = false := by simpa using hn
      clear hn
      go_enter Tryd.func60, Tryd.ntmps60
      go_wp2_with fail
      go_ret2
      exact ofRes_same H.out hi (by rw [hs.out, Hr.out]) rfl
  · have hs := hid (show takenL (p, n, f) no = (p, n, f) by simp [takenL, hp])
    have hp1 : (p == 2) = false := by simpa using hp
    clear hp
    go_enter Tryd.func60, Tryd.ntmps60
    go_wp2_with fail
    go_ret2
    exact ofRes_same H.out hi (by rw [hs.out, Hr.out]) rfl
set_option maxRecDepth 100000 in
set_option maxHeartbeats 1000000 in
theorem kept_any (h : Dk w base b (.slice (some ⟨g, 0, none⟩) rs.length c) me rs) (i : Nat) (hi : i < rs.length) (no : Int) (take : Bool) :
    Calls Tryd.prog 61 #[.pointer (some ⟨g, i * 3, none⟩), .int .i64 no, .bool take] w (OfRes w base b g c me rs i (keptL rs[i] no, -1, 0)) := by
  obtain ⟨x0, x1, x2, fz⟩ := h.at_ hi
  have f0 := fz (i * 3)
  clear fz
  have hz := (h.gne (by omega)).2.2
  obtain ⟨r, hr⟩ : ∃ r, r = rs[i] := ⟨_, rfl⟩
  have Hr := hid hr
  rw [← hr] at x0 x1 x2
  obtain ⟨p, n, f⟩ := r
  simp only at x0 x1 x2
  have H := hid h
  rw [← hr]
  clear h hr
  by_cases hp : p = 2
  · subst hp
    by_cases hn : n = no
    · subst hn
      have hs := hid (show keptL (2, n, f) n = (1, n, f) by simp [keptL])
      go_enter Tryd.func61, Tryd.ntmps61
      go_wp2_with fail
      go_ret2
      rw [hs.out]
      have := H.out.set1 hi 1
      rw [← Hr.out] at this
      exact ⟨rfl, this.1, this.2⟩
    · have hs := hid (show keptL (2, n, f) no = (2, n, f) by simp [keptL, hn])
      have hn1 : (n == no) = false := by simpa using hn
      clear hn
      go_enter Tryd.func61, Tryd.ntmps61
      go_wp2_with fail
      go_ret2
      exact ofRes_same H.out hi (by rw [hs.out, Hr.out]) rfl
  · have hs := hid (show keptL (p, n, f) no = (p, n, f) by simp [keptL, hp])
    have hp1 : (p == 2) = false := by simpa using hp
    clear hp
    go_enter Tryd.func61, Tryd.ntmps61
    go_wp2_with fail
    go_ret2
    exact ofRes_same H.out hi (by rw [hs.out, Hr.out]) rfl
end
end Go.Proofs.YtfofmbmmighdiaaDoor
