
/- Game: ascends, Right. -/
import Derived.Test.YtfpehakllnkaeaaDoorGamA
set_option linter.unusedSimpArgs false
set_option linter.unusedVariables false
namespace Go.Proofs.YtfpehakllnkaeaaDoor
open Go.RowKit Go.IntWalk

theorem SlR.mv {w : World} {B : Nat} {A : Option Addr} {l : List Mv} (h : SlR w B A l) {k : Nat} (hk : k < l.length) : ∃ b off A' c', A = some ⟨b, off, none⟩ ∧ b < B ∧
    w.cell? ⟨b, off + k * 2, none⟩ = some (.int .i64 l[k].1) ∧ w.cell? ⟨b, off + k * 2 + 1, none⟩ = some (.slice A' l[k].2.length c') ∧ l[k].2.length ≤ c' ∧ c' ≤ maxLen ∧ SlR w B A' l[k].2 ∧ I64 l[k].1 := by
  obtain ⟨b, off, es, hA, hb, hs, hc, e1, e2, rfl, _, _, ⟨rfl, hi⟩, A', c', rfl, h1, h2, h3⟩ := h k _ (List.getElem?_eq_getElem hk)
  have h4 : Rep.size Mv = 2 := rfl
  rw [h4] at hc
  exact ⟨b, off, A', c', hA, hb, by simpa using hc 0 _ rfl, by simpa using hc 1 _ rfl, h1, h2, h3, hi⟩
theorem drop_cons {α : Type} (l : List α) (k : Nat) (hk : k < l.length) : l.drop k = l[k] :: l.drop (k + 1) := by rw [List.drop_eq_getElem_cons hk]
def lastK (l : List Int) (k : Nat) : Int := if k = 0 then -1 else l.getD (k - 1) 0
theorem lastK_succ (l : List Int) (k : Nat) (hk : k < l.length) : lastK l (k + 1) = l[k] := by simp [lastK, hk]
/-- A game as an argument: where its two slices lie. -/
structure GmR (w : World) (B : Nat) (Ag Am : Option Addr) (g : Gm) : Prop where
  goal : SlR w B Ag g.1
  mvs : SlR w B Am g.2
  lg : g.1.length ≤ maxLen
  lm : g.2.length ≤ maxLen
theorem GmR.below {w w' : World} {B : Nat} {Ag Am : Option Addr} {g : Gm} (h : GmR w B Ag Am g) (hb : Below B w w') : GmR w' B Ag Am g := ⟨h.goal.below hb, h.mvs.below hb, h.lg, h.lm⟩
theorem GmR.more {w : World} {B B' : Nat} {Ag Am : Option Addr} {g : Gm} (h : GmR w B Ag Am g) (hB : B ≤ B') : GmR w B' Ag Am g := ⟨h.goal.more hB, h.mvs.more hB, h.lg, h.lm⟩
theorem GmR.to {w w' : World} {Ag Am : Option Addr} {g : Gm} (h : GmR w w.heap.size Ag Am g) (hb : Below w.heap.size w w') : GmR w' w'.heap.size Ag Am g := (h.below hb).more hb.size
def lastA (l : List Mv) (k : Nat) : Int := if k = 0 then -1 else (l.getD (k - 1) (0, [])).1
theorem lastA_succ (l : List Mv) (k : Nat) (hk : k < l.length) : lastA l (k + 1) = l[k].1 := by simp [lastA, hk]
theorem all_take {α : Type} (f : α → Bool) (l : List α) (k : Nat) (hk : k < l.length) : (l.take (k + 1)).all f = ((l.take k).all f && f l[k]) := by
  rw [List.take_add_one, List.getElem?_eq_getElem hk, List.all_append]
  simp
end Go.Proofs.YtfpehakllnkaeaaDoor
