
/- Lease: a desk's calls, each as one function of what the desk knows. -/
import Derived.Test.YtappgjdnfllblaaDoorLeaW
import Derived.Test.YtappgjdnfllblaaDoorLeaO
set_option linter.unusedSimpArgs false
set_option linter.unusedVariables false
namespace Go.Proofs.YtappgjdnfllblaaDoor
open Go.RowKit Go.IntWalk Go.Maps Go.WideMaps
abbrev NE := P4 × Int
def zeroN : P4 := (0, 0, 0, 0)
def askF (d : LDk) (z : Int) : NE × LDk := if lAs d z false = 0 then (((0, z, 0, (d.gs z).2.2.2 + 1), 0), d.setG z (askG (d.gs z))) else ((zeroN, lAs d z false), d)
def backF (d : LDk) (z : Int) : NE × LDk := if lAs d z false = 0 then
    (if (d.gs z).2.2.1 < (d.gs z).2.1 then (((2, z, 0, (d.gs z).2.1), 0), d.setG z (backG (d.gs z))) else ((zeroN, 7), d))
  else ((zeroN, lAs d z false), d)
def giveF (d : LDk) (z unt now : Int) : NE × LDk := if lAs d z true = 0 then
    (if now < unt ∧ unt ≤ now + 1000 then (if (d.hs z).1 ≤ unt then (((1, z, unt, (d.hs z).2.1 + 1), 0), d.setH z (giveH (d.hs z) unt)) else ((zeroN, 8), d)) else ((zeroN, 3), d))
  else ((zeroN, lAs d z true), d)
def hearF (d : LDk) (n : P4) : Int × LDk := if n.1 < 0 ∨ 3 ≤ n.1 then (4, d)
  else if lAs d n.2.1 (decide (n.1 ≠ 1)) = 0 then
    (0, if n.1 = 1 then (if (d.gs n.2.1).2.2.1 < n.2.2.2 then d.setG n.2.1 (hearG (d.gs n.2.1) (n.1, n.2.2.1, n.2.2.2)) else d)
      else if n.1 = 0 then d.setH n.2.1 ((d.hs n.2.1).1, (d.hs n.2.1).2.1, true)
      else if n.2.2.2 = (d.hs n.2.1).2.1 then d.setH n.2.1 (0, (d.hs n.2.1).2.1, (d.hs n.2.1).2.2) else d)
  else (lAs d n.2.1 (decide (n.1 ≠ 1)), d)
def noteV (n : P4) : Value := noteC n.1 n.2.1 n.2.2.1 n.2.2.2
/-- A desk's call: what it returns; what the desk knows then; one of its maps has changed. -/
def LRes (w : World) (base b : Nat) (v : Value) (mh mg : Nat) (x : Value) (d : LDk) (e : Ending) (w' : World) : Prop :=
  e = .returned x ∧ Ld w' base b v mh mg d ∧ ∃ q, (q = mh ∨ q = mg) ∧ w.grownBy w' (some q)
section
variable {w w' : World} {base b : Nat} {v : Value} {mh mg : Nat} {d : LDk}
theorem Ld.lres (h : Ld w base b v mh mg d) {x : Value} {e : Ending} (he : e = .returned x) (hb : Below w.heap.size w w') : LRes w base b v mh mg x d e w' :=
  ⟨he, h.below hb, mh, .inl rfl, gr_below hb _⟩
theorem ask_f (h : Ld w base b v mh mg d) (ok : d.Ok) {z : Int} (hz : I64 z) :
    Calls Tryd.prog 18 #[.pointer (some ⟨b, 0, none⟩), .int .i64 z] w (LRes w base b v mh mg (.tuple #[noteV (askF d z).1.1, .int .i64 (askF d z).1.2]) (askF d z).2) := by
  unfold askF
  by_cases he : lAs d z false = 0
  · rw [if_pos he]
    exact (ask_yes h ok hz he).mono fun e w' ⟨h1, h2, h3⟩ => ⟨h1, h2, mg, .inr rfl, h3⟩
  · rw [if_neg he]
    exact (ask_no h ok hz he).mono fun e w' ⟨h1, h2⟩ => h.lres h1 h2
theorem back_f (h : Ld w base b v mh mg d) (ok : d.Ok) {z : Int} (hz : I64 z) :
    Calls Tryd.prog 24 #[.pointer (some ⟨b, 0, none⟩), .int .i64 z] w (LRes w base b v mh mg (.tuple #[noteV (backF d z).1.1, .int .i64 (backF d z).1.2]) (backF d z).2) := by
  unfold backF
  by_cases he : lAs d z false = 0
  · rw [if_pos he]
    by_cases hs : (d.gs z).2.2.1 < (d.gs z).2.1
    · rw [if_pos hs]
      exact (back_yes h ok hz he hs).mono fun e w' ⟨h1, h2, h3⟩ => ⟨h1, h2, mg, .inr rfl, h3⟩
    · rw [if_neg hs]
      exact (back_st h ok hz he (by omega)).mono fun e w' ⟨h1, h2⟩ => h.lres h1 h2
  · rw [if_neg he]
    exact (back_no h ok hz he).mono fun e w' ⟨h1, h2⟩ => h.lres h1 h2
theorem give_f (h : Ld w base b v mh mg d) (ok : d.Ok) {z unt now : Int} (hz : I64 z) (hu : I64 unt) (hn : -4398046511104 ≤ now ∧ now ≤ 4398046511104) :
    Calls Tryd.prog 19 #[.pointer (some ⟨b, 0, none⟩), .int .i64 z, .int .i64 unt, .int .i64 now] w (LRes w base b v mh mg (.tuple #[noteV (giveF d z unt now).1.1, .int .i64 (giveF d z unt now).1.2]) (giveF d z unt now).2) := by
  unfold giveF
  by_cases he : lAs d z true = 0
  · rw [if_pos he]
    by_cases h1 : now < unt
    · by_cases h2 : unt ≤ now + 1000
      · rw [if_pos ⟨h1, h2⟩]
        by_cases hs : (d.hs z).1 ≤ unt
        · rw [if_pos hs]
          exact (give_yes h ok hz hu hn he h1 h2 hs).mono fun e w' ⟨h1, h2, h3⟩ => ⟨h1, h2, mh, .inl rfl, h3⟩
        · rw [if_neg hs]
          exact (give_busy h ok hz hu hn he h1 h2 (by omega)).mono fun e w' ⟨h1, h2⟩ => h.lres h1 h2
      · rw [if_neg (fun h => h2 h.2)]
        exact (give_r2 h ok hz hu hn he h1 (by omega)).mono fun e w' ⟨h1, h2⟩ => h.lres h1 h2
    · rw [if_neg (fun h => h1 h.1)]
      exact (give_r1 h ok hz hu hn he (by omega)).mono fun e w' ⟨h1, h2⟩ => h.lres h1 h2
  · rw [if_neg he]
    exact (give_no h ok hz hu hn he).mono fun e w' ⟨h1, h2⟩ => h.lres h1 h2
theorem hear_f (h : Ld w base b v mh mg d) (ok : d.Ok) (n : P4) (hz : I64 n.2.1) :
    Calls Tryd.prog 17 #[.pointer (some ⟨b, 0, none⟩), noteV n] w (LRes w base b v mh mg (.int .i64 (hearF d n).1) (hearF d n).2) := by
  obtain ⟨k, z, u, n⟩ := n
  unfold hearF noteV noteC
  simp only at hz ⊢
  by_cases hk : k < 0
  · rw [if_pos (Or.inl hk)]
    exact (hear_k1 k z u n hk).mono fun e w' ⟨h1, h2⟩ => h.lres h1 h2
  by_cases hk3 : 3 ≤ k
  · rw [if_pos (Or.inr hk3)]
    exact (hear_k2 k z u n (by omega) hk3).mono fun e w' ⟨h1, h2⟩ => h.lres h1 h2
  rw [if_neg (by omega)]
  by_cases he : lAs d z (decide (k ≠ 1)) = 0
  · rw [if_pos he]
    by_cases h1 : k = 1
    · subst h1
      rw [if_pos rfl]
      have he' : lAs d z false = 0 := by simpa using he
      by_cases hs : (d.gs z).2.2.1 < n
      · rw [if_pos hs]
        exact (hear_give h ok z u n hz he' hs).mono fun e w' ⟨h1, h2, h3⟩ => ⟨h1, h2, mg, .inr rfl, h3⟩
      · rw [if_neg hs]
        exact (hear_give0 h ok z u n hz he' (by omega)).mono fun e w' ⟨h1, h2⟩ => h.lres h1 h2
    · rw [if_neg h1]
      have he' : lAs d z true = 0 := by simpa [h1] using he
      by_cases h0 : k = 0
      · subst h0
        rw [if_pos rfl]
        exact (hear_ask h ok z u n hz he').mono fun e w' ⟨h1, h2, h3⟩ => ⟨h1, h2, mh, .inl rfl, h3⟩
      · rw [if_neg h0]
        obtain rfl : k = 2 := by omega
        by_cases hs : n = (d.hs z).2.1
        · rw [if_pos hs]
          exact (hear_back h ok z u n hz he' hs).mono fun e w' ⟨h1, h2, h3⟩ => ⟨h1, h2, mh, .inl rfl, h3⟩
        · rw [if_neg hs]
          exact (hear_back0 h ok z u n hz he' hs).mono fun e w' ⟨h1, h2⟩ => h.lres h1 h2
  · rw [if_neg he]
    exact (hear_as h ok k z u n (by omega) (by omega) he).mono fun e w' ⟨h1, h2⟩ => h.lres h1 h2
end
end Go.Proofs.YtappgjdnfllblaaDoor
