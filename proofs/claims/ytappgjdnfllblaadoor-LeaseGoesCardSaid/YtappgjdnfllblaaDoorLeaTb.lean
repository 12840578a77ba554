
/- Lease, plain: what the desks say of a zone at every moment; a list of acts in memory. -/
import Derived.Test.YtappgjdnfllblaaDoorLeaZa
set_option linter.unusedSimpArgs false
set_option linter.unusedVariables false
namespace Go.Proofs.YtappgjdnfllblaaDoor
open Go.RowKit Go.IntWalk
section
variable {home : List Int} {i : Int} {s : LS} {z : Int}
theorem LInv.dH (h : LInv home i s) (z0 : 0 ≤ z) (z1 : z < home.length) : (s.D (hm home z)).hp z = true ∧ (s.D (hm home z)).gp z = false ∧ (s.D (1 - hm home z)).hp z = false ∧ (s.D (1 - hm home z)).gp z = true := by
  have h01 := hm01 h.h01 z0 z1
  obtain ⟨a1, a2, a3⟩ := h.me (hm home z) h01
  obtain ⟨b1, b2, b3⟩ := h.me (1 - hm home z) (by omega)
  rw [hpD z0 (by rw [a2]; exact z1), gpD z0 (by rw [a2]; exact z1), hpD z0 (by rw [b2]; exact z1), gpD z0 (by rw [b2]; exact z1), a2, a1, b2, b1]
  have e : hm home z ≠ 1 - hm home z := by omega
  simp [e]
theorem LInv.holdsH (h : LInv home i s) (z0 : 0 ≤ z) (z1 : z < home.length) (now : Int) : lHolds (s.D (hm home z)) z now = decide (((s.D (hm home z)).hs z).1 ≤ now) := by
  unfold lHolds
  rw [(h.dH z0 z1).1]; rfl
theorem LInv.holdsG (h : LInv home i s) (z0 : 0 ≤ z) (z1 : z < home.length) (now : Int) : lHolds (s.D (1 - hm home z)) z now = decide (now + 2 < ((s.D (1 - hm home z)).gs z).1) := by
  unfold lHolds
  rw [(h.dH z0 z1).2.2.1, (h.dH z0 z1).2.2.2]; rfl
theorem LInv.endsH (h : LInv home i s) (z0 : 0 ≤ z) (z1 : z < home.length) : lEnds (s.D (hm home z)) z = ((s.D (hm home z)).hs z).1 := by
  unfold lEnds
  rw [(h.me _ (hm01 h.h01 z0 z1)).2.2.gg z (h.dH z0 z1).2.1]; simp
theorem LInv.endsG (h : LInv home i s) (z0 : 0 ≤ z) (z1 : z < home.length) : lEnds (s.D (1 - hm home z)) z = ((s.D (1 - hm home z)).gs z).1 := by
  have h01 := hm01 h.h01 z0 z1
  unfold lEnds
  rw [(h.me _ (show 1 - hm home z = 0 ∨ 1 - hm home z = 1 by omega)).2.2.hh z (h.dH z0 z1).2.2.1]; simp
theorem LInv.clocks (h : LInv home i s) (w : Int) : s.clock w ≤ s.clock (1 - w) + 2 ∧ 0 ≤ s.clock w ∧ s.clock w ≤ s.time + 2 := by
  have t := h.t; have e0 := h.a0; have e1 := h.a1
  unfold LS.clock LS.ahead
  split <;> split <;> omega
/-- Not both hold the zone. -/
theorem LInv.apart2 (h : LInv home i s) (z0 : 0 ≤ z) (z1 : z < home.length) : ¬ (lHolds s.da z (s.clock 0) = true ∧ lHolds s.db z (s.clock 1) = true) := by
  rintro ⟨h0, h1⟩
  have hz := h.zi z z0 z1
  have hH := h.holdsH z0 z1 (s.clock (hm home z))
  have hG := h.holdsG z0 z1 (s.clock (1 - hm home z))
  have hc := (h.clocks (hm home z)).1
  rcases hm01 h.h01 z0 z1 with e | e
  · rw [e] at hH hG hz hc
    rw [show s.D 0 = s.da from rfl, h0] at hH
    rw [show s.D (1 - 0) = s.db from rfl, show (1 : Int) - 0 = 1 from rfl, h1] at hG
    exact hz.apart hc (of_decide_eq_true hH.symm) (of_decide_eq_true hG.symm)
  · rw [e] at hH hG hz hc
    rw [show s.D 1 = s.db from rfl, h1] at hH
    rw [show s.D (1 - 1) = s.da from rfl, show (1 : Int) - 1 = 0 from rfl, h0] at hG
    exact hz.apart hc (of_decide_eq_true hH.symm) (of_decide_eq_true hG.symm)
/-- Its home holds the zone when its clock has reached the end. -/
theorem LInv.atEnd (h : LInv home i s) (z0 : 0 ≤ z) (z1 : z < home.length) (now : Int) : lHolds (s.D (hm home z)) z now = decide (lEnds (s.D (hm home z)) z ≤ now) := by
  rw [h.holdsH z0 z1, h.endsH z0 z1]
end
abbrev Ac := Int × Int × Int × Int
theorem ac_rep {w : World} {B : Nat} {es : List Value} {o : Ac} (h : Rep.rep w B es o) : es = [.int .i64 o.1, .int .i64 o.2.1, .int .i64 o.2.2.1, .int .i64 o.2.2.2] ∧ I64 o.2.2.1 ∧ I64 o.2.2.2 := by
  obtain ⟨e1, e2, rfl, _, _, ⟨rfl, h1⟩, e3, e4, rfl, _, _, ⟨rfl, h2⟩, e5, e6, rfl, _, _, ⟨rfl, h3⟩, rfl, h4⟩ := h
  exact ⟨rfl, h3, h4⟩
theorem SlR.ac {w : World} {B : Nat} {A : Option Addr} {l : List Ac} (h : SlR w B A l) {k : Nat} (hk : k < l.length) : ∃ b off, A = some ⟨b, off, none⟩ ∧ b < B ∧
    w.cell? ⟨b, off + k * 4, none⟩ = some (.int .i64 l[k].1) ∧ w.cell? ⟨b, off + k * 4 + 1, none⟩ = some (.int .i64 l[k].2.1) ∧ w.cell? ⟨b, off + k * 4 + 2, none⟩ = some (.int .i64 l[k].2.2.1) ∧ w.cell? ⟨b, off + k * 4 + 3, none⟩ = some (.int .i64 l[k].2.2.2) ∧ I64 l[k].2.2.1 := by
  obtain ⟨b, off, es, hA, hb, hs, hc, hr⟩ := h k _ (List.getElem?_eq_getElem hk)
  obtain ⟨hr, hi, _⟩ := ac_rep hr
  subst hr
  have h4 : Rep.size Ac = 4 := rfl
  rw [h4] at hc
  exact ⟨b, off, hA, hb, by simpa using hc 0 _ rfl, by simpa using hc 1 _ rfl, by simpa using hc 2 _ rfl, by simpa using hc 3 _ rfl, hi⟩
theorem lact_any {home : List Int} {w0 wx : World} {m : PM} {s : LS} {i : Int} (hi0 : 0 ≤ i) (hi : i ≤ 100000) (he : Env w0) (h : Pl w0 wx m s) (hI : LInv home i s) (dd ww zz nn : Int) (hz : I64 zz) :
    Calls Tryd.prog 40 #[.pointer (some ⟨m.px, 0, none⟩), .agg #[.int .i64 dd, .int .i64 ww, .int .i64 zz, .int .i64 nn]] wx (ARes home w0 m.px i) := by
  rcases and_one ww with h1 | h1
  · exact lact_0 hi0 hi he h hI dd ww zz nn hz h1
  · exact lact_1 hi0 hi he h hI dd ww zz nn hz h1
/-- A pair that was made behind what is there now lies behind it all. -/
theorem Pl.low {w0 w1 wx : World} {m : PM} {s : LS} (h : Pl w1 wx m s) (hb : Below w0.heap.size w0 w1) : Pl w0 wx m s := by
  have := hb.size
  have := h.lo
  exact ⟨hb.trans (h.below.mono hb.size), by omega, h.hn, h.bp, h.bd, h.bg, h.la, h.lb, h.sep, h.ra, h.rb, h.nt⟩
theorem and01 {x : Int} (h : x = 0 ∨ x = 1) : bits .and .i64 x 1 = x := by
  rcases h with rfl | rfl <;> decide
end Go.Proofs.YtappgjdnfllblaaDoor
