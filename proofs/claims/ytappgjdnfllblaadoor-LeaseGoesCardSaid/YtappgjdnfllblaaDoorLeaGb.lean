
/- Lease, plain: a zone is asked for, lent, and given back, with nothing else under way. -/
import Derived.Test.YtappgjdnfllblaaDoorLeaTb
set_option linter.unusedSimpArgs false
set_option linter.unusedVariables false
namespace Go.Proofs.YtappgjdnfllblaaDoor
open Go.RowKit Go.IntWalk
section
variable {d : LDk} {z : Int}
theorem setH_at (x : Ho) : (d.setH z x).hs z = x := by show (if z = z then x else d.hs z) = x; rw [if_pos rfl]
theorem setG_at (x : Gu) : (d.setG z x).gs z = x := by show (if z = z then x else d.gs z) = x; rw [if_pos rfl]
/-- All that happens, and what is said then. -/
structure Goes (dh dg : LDk) (z ch cg term : Int) (a no : Int) (dg1 dh1 dh2 dg2 dg3 dh3 : LDk) : Prop where
  a1 : askF dg z = (((0, z, 0, a), 0), dg1)
  a2 : hearF dh (0, z, 0, a) = (0, dh1)
  a3 : (dh1.hs z).2.2 = true
  b1 : giveF dh1 z (ch + term) ch = (((1, z, ch + term, no), 0), dh2)
  b2 : hearF dg1 (1, z, ch + term, no) = (0, dg2)
  b3 : lHolds dg2 z cg = true
  b4 : lHolds dh2 z ch = false
  b5 : (dh2.hs z).2.2 = false
  c1 : backF dg2 z = (((2, z, 0, no), 0), dg3)
  c2 : hearF dh2 (2, z, 0, no) = (0, dh3)
  c3 : lHolds dh3 z ch = true
  c4 : lHolds dg3 z cg = false
  i1 : P4I (0, z, 0, a)
  i2 : P4I (1, z, ch + term, no)
  i3 : P4I (2, z, 0, no)
  o1 : dg1.Ok
  o2 : dh1.Ok
  o3 : dh2.Ok
  o4 : dg2.Ok
  o5 : dg3.Ok
  o6 : dh3.Ok
  n1 : dh1.home = dh.home
  n2 : dh2.home = dh.home
theorem goes_plain {dh dg : LDk} {ch cg term : Int} (hh : OkI dh 1000000) (hg : OkI dg 1000000) (hhome : dh.home = dg.home) (hme : dg.me = 1 - dh.me) (z0 : 0 ≤ z) (z1 : z < dh.home.length) (hz : hm dh.home z = dh.me)
    (zi : ZI (dh.hs z) (dg.gs z) []) (hl : (dh.hs z).1 ≤ ch - 2) (hc : cg ≤ ch + 2) (hcg : 0 ≤ cg) (hc0 : 2 ≤ ch ∧ ch ≤ 100000) (ht : 8 ≤ term ∧ term ≤ 900) :
    ∃ a no dg1 dh1 dh2 dg2 dg3 dh3, Goes dh dg z ch cg term a no dg1 dh1 dh2 dg2 dg3 dh3 := by
  obtain ⟨⟨x1, x2, x3, x4⟩, _⟩ := hh.2 z
  obtain ⟨_, y1, y2, y3, y4, y5, y6, y7, y8⟩ := hg.2 z
  have q1 := zi.g0; have q2 := zi.gh; have q3 := zi.hn; have q4 := zi.hl; have q5 := zi.h0
  have hm0 : dh.me = 0 ∨ dh.me = 1 := hh.1.me
  have hlen := hh.1.len
  have A : lAs dg z false = 0 := asD0 z0 (by rw [← hhome]; exact z1) (by rw [← hhome, hz, hme]; exact decide_eq_false (by omega))
  have B : lAs dh z true = 0 := asD0 z0 z1 (by rw [hz]; exact decide_eq_true rfl)
  have hp : dh.hp z = true := lAs_yes B
  have gp : dg.gp z = true := lAs_no A
  have nhp : dg.hp z = false := by
    rw [hpD z0 (by rw [← hhome]; exact z1), ← hhome, hz, hme]; exact decide_eq_false (by omega)
  obtain ⟨g1, hg1⟩ : ∃ g, g = askG (dg.gs z) := ⟨_, rfl⟩
  obtain ⟨h1, hh1⟩ : ∃ h : Ho, h = ((dh.hs z).1, (dh.hs z).2.1, true) := ⟨_, rfl⟩
  obtain ⟨h2, hh2⟩ : ∃ h : Ho, h = giveH h1 (ch + term) := ⟨_, rfl⟩
  obtain ⟨g2, hg2⟩ : ∃ g, g = hearG g1 (1, ch + term, (dh.hs z).2.1 + 1) := ⟨_, rfl⟩
  obtain ⟨g3, hg3⟩ : ∃ g, g = backG g2 := ⟨_, rfl⟩
  obtain ⟨h3, hh3⟩ : ∃ h : Ho, h = (0, h2.2.1, h2.2.2) := ⟨_, rfl⟩
  have e1 : g1 = ((dg.gs z).1, (dg.gs z).2.1, (dg.gs z).2.2.1, (dg.gs z).2.2.2 + 1) := hg1
  have e2 : h2 = (ch + term, (dh.hs z).2.1 + 1, false) := by rw [hh2, hh1]; rfl
  have e3 : g2 = (max (dg.gs z).1 (ch + term), max (dg.gs z).2.1 ((dh.hs z).2.1 + 1), (dg.gs z).2.2.1, (dg.gs z).2.2.2 + 1) := by
    rw [hg2, e1]; unfold hearG; rw [if_pos (by simp only; omega)]
  have e4 : max (dg.gs z).2.1 ((dh.hs z).2.1 + 1) = (dh.hs z).2.1 + 1 := by omega
  rw [e4] at e3
  have e5 : g3 = (0, (dh.hs z).2.1 + 1, (dh.hs z).2.1 + 1, (dg.gs z).2.2.2 + 1) := by rw [hg3, e3]; rfl
  have e6 : h3 = (0, (dh.hs z).2.1 + 1, false) := by rw [hh3, e2]
  have od1 : (dg.setG z g1).Ok := hg.1.setG gp (by rw [e1]; unfold GuB; simp only; omega)
  have od2 : (dh.setH z h1).Ok := hh.1.setH hp (by rw [hh1]; unfold HoB; simp only; omega)
  have od3 : ((dh.setH z h1).setH z h2).Ok := od2.setH hp (by rw [e2]; unfold HoB; simp only; omega)
  have od4 : ((dg.setG z g1).setG z g2).Ok := od1.setG gp (by rw [e3]; unfold GuB; simp only; omega)
  have od5 : (((dg.setG z g1).setG z g2).setG z g3).Ok := od4.setG gp (by rw [e5]; unfold GuB; simp only; omega)
  have od6 : (((dh.setH z h1).setH z h2).setH z h3).Ok := od3.setH hp (by rw [e6]; unfold HoB; simp only; omega)
  refine ⟨(dg.gs z).2.2.2 + 1, (dh.hs z).2.1 + 1, dg.setG z g1, dh.setH z h1, (dh.setH z h1).setH z h2, (dg.setG z g1).setG z g2, ((dg.setG z g1).setG z g2).setG z g3, ((dh.setH z h1).setH z h2).setH z h3, ?_⟩
  have B1 : lAs (dh.setH z h1) z true = 0 := B
  have B2 : lAs ((dh.setH z h1).setH z h2) z true = 0 := B
  have A1 : lAs (dg.setG z g1) z false = 0 := A
  have A2 : lAs ((dg.setG z g1).setG z g2) z false = 0 := A
  refine ⟨?_, ?_, ?_, ?_, ?_, ?_, ?_, ?_, ?_, ?_, ?_, ?_, P4I_small (by simp) (by simp only; omega) (by simp) (by simp only; omega), P4I_small (by simp) (by simp only; omega) (by simp only; omega) (by simp only; omega), P4I_small (by simp) (by simp only; omega) (by simp) (by simp only; omega), od1, od2, od3, od4, od5, od6, rfl, rfl⟩
  · unfold askF; rw [if_pos A, hg1]
  · unfold hearF
    simp only
    rw [if_neg (by omega), show decide ((0 : Int) ≠ 1) = true by decide, if_pos B, if_neg (by omega), if_pos trivial, hh1]
  · rw [setH_at, hh1]
  · unfold giveF
    rw [if_pos B1, if_pos ⟨by omega, by omega⟩, setH_at, if_pos (by rw [hh1]; simp only; omega), ← hh2, hh1]
  · unfold hearF
    simp only
    rw [if_neg (by omega), show decide ((1 : Int) ≠ 1) = false by decide, if_pos A1, if_pos trivial, setG_at, if_pos (by rw [e1]; simp only; omega), ← hg2]
  · have : lHolds ((dg.setG z g1).setG z g2) z cg = decide (cg + 2 < g2.1) := by
      unfold lHolds
      rw [show ((dg.setG z g1).setG z g2).hp z = false from nhp, show ((dg.setG z g1).setG z g2).gp z = true from gp, setG_at]; rfl
    rw [this]; exact decide_eq_true (by rw [e3]; simp only; omega)
  · have : lHolds ((dh.setH z h1).setH z h2) z ch = decide (h2.1 ≤ ch) := by
      unfold lHolds
      rw [show ((dh.setH z h1).setH z h2).hp z = true from hp, setH_at]; rfl
    rw [this]; exact decide_eq_false (by rw [e2]; simp only; omega)
  · rw [setH_at, e2]
  · unfold backF
    rw [if_pos A2, setG_at, if_pos (by rw [e3]; simp only; omega), ← hg3, e3]
  · unfold hearF
    simp only
    rw [if_neg (by omega), show decide ((2 : Int) ≠ 1) = true by decide, if_pos B2, if_neg (by omega), if_neg (by omega), setH_at, if_pos (by rw [e2]), ← hh3]
  · have : lHolds (((dh.setH z h1).setH z h2).setH z h3) z ch = decide (h3.1 ≤ ch) := by
      unfold lHolds
      rw [show (((dh.setH z h1).setH z h2).setH z h3).hp z = true from hp, setH_at]; rfl
    rw [this]; exact decide_eq_true (by rw [e6]; simp only; omega)
  · have : lHolds (((dg.setG z g1).setG z g2).setG z g3) z cg = decide (cg + 2 < g3.1) := by
      unfold lHolds
      rw [show (((dg.setG z g1).setG z g2).setG z g3).hp z = false from nhp, show (((dg.setG z g1).setG z g2).setG z g3).gp z = true from gp, setG_at]; rfl
    rw [this]; exact decide_eq_false (by rw [e5]; simp only; omega)
end
/-- Whatever is under way is lost; the network is whole; time has passed the end; the clock of 0 is ahead by 2. -/
theorem LInv.late {home : List Int} {i : Int} {s : LS} (h : LInv home i s) (hi : 0 ≤ i ∧ i ≤ 100) {t : Int} (ht : s.time + 2 ≤ t ∧ t ≤ 2000) : LInv home 1000 { s with F := [], sp := 0, time := t, a0 := 2, a1 := 0 } := by
  have e0 := h.a0; have e1 := h.a1; have t0 := h.t
  have hC : ∀ v, s.clock v ≤ ({ s with F := [], sp := 0, time := t, a0 := 2, a1 := 0 } : LS).clock v := fun v => by
    unfold LS.clock LS.ahead
    split <;> simp only <;> omega
  refine ⟨h.h01, h.len, h.me, .inl rfl, by simp, ⟨by simp only; omega, by simp only; omega⟩, by simp, by simp, by simp, fun z a b => (h.zi z a b).sub (by simp [notesZ]), fun z a b => ?_, fun z a b => ?_, fun z a b => ?_⟩
  · have := h.soon z a b; have := hC (hm home z); exact Int.le_trans ‹_› (by omega)
  · have := h.nos z a b; exact Int.le_trans ‹_› (by omega)
  · have := h.asks z a b; exact ⟨this.1, Int.le_trans this.2 (by omega)⟩
end Go.Proofs.YtappgjdnfllblaaDoor
