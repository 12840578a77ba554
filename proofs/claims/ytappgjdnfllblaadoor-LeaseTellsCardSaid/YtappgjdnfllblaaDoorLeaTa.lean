
/- Lease, plain: what each act leaves. -/
import Derived.Test.YtappgjdnfllblaaDoorLeaT
set_option linter.unusedSimpArgs false
set_option linter.unusedVariables false
namespace Go.Proofs.YtappgjdnfllblaaDoor
open Go.RowKit Go.IntWalk
/-- A desk's call, and its note is sent. -/
def sendS (s : LS) (w : Int) (r : NE × LDk) : LS := { s.setD w r.2 with F := if r.1.2 = 0 then sendN s.F s.sp (w, 1 - w, bs (enc4 r.1.1)) else s.F }
section
variable {home : List Int} {i : Int} {s : LS}
theorem setD_self (w : Int) : s.setD w (s.D w) = s := by
  unfold LS.setD LS.D
  split <;> rfl
theorem sendS_no {w : Int} {n : P4} {e : Int} (h : e ≠ 0) : sendS s w ((n, e), s.D w) = s := by
  unfold sendS
  simp only [if_neg h, setD_self]
theorem P4I_small {n : P4} (h1 : -1000000000 ≤ n.1 ∧ n.1 ≤ 1000000000) (h2 : -1000000000 ≤ n.2.1 ∧ n.2.1 ≤ 1000000000) (h3 : -1000000000 ≤ n.2.2.1 ∧ n.2.2.1 ≤ 1000000000) (h4 : -1000000000 ≤ n.2.2.2 ∧ n.2.2.2 ≤ 1000000000) : P4I n :=
  ⟨⟨by omega, by omega⟩, ⟨by omega, by omega⟩, ⟨by omega, by omega⟩, ⟨by omega, by omega⟩⟩
theorem LInv.pk_send (h : LInv home i s) {p : Pk} {n : P4} (hp : PkOf home p n) {sp : Int} : ∀ q ∈ sendN s.F sp p, ∃ n, PkOf home q n := by
  intro q hq
  rcases sendN_mem hq with hq | rfl
  · exact h.pk q hq
  · exact ⟨n, hp⟩
theorem notes_other {z y : Int} {F : List Pk} {sp : Int} {p : Pk} {n : P4} (hp : PkOf home p n) (hz : n.2.1 = z) (hy : y ≠ z) : ∀ m ∈ notesZ y (sendN F sp p), m ∈ notesZ y F := by
  intro m hm
  have := notesZ_send hp m hm
  rw [if_neg (by omega), List.append_nil] at this
  exact this
theorem notes_same {z : Int} {F : List Pk} {sp : Int} {p : Pk} {n : P4} (hp : PkOf home p n) (hz : n.2.1 = z) : ∀ m ∈ notesZ z (sendN F sp p), m ∈ notesZ z F ++ [(n.1, n.2.2.1, n.2.2.2)] := by
  intro m hm
  have := notesZ_send hp m hm
  rw [if_pos hz] at this
  exact this
/-- Ask. -/
theorem LInv.ask (h : LInv home i s) (hi : i ≤ 100000) {w : Int} (hw : w = 0 ∨ w = 1) (z : Int) : LInv home (i + 1) (sendS s w (askF (s.D w) z)) ∧ ((askF (s.D w) z).1.2 = 0 → P4I (askF (s.D w) z).1.1) ∧ (askF (s.D w) z).2.Ok := by
  obtain ⟨m1, m2, m3⟩ := h.me w hw
  unfold askF
  by_cases he : lAs (s.D w) z false = 0
  · rw [if_pos he]
    obtain ⟨z0, z1, z2⟩ := asD he
    rw [m2] at z1 z2
    rw [m1] at z2
    have h01 := hm01 h.h01 z0 z1
    have hz : hm home z = 1 - w := by have : hm home z ≠ w := by simpa using z2
                                      omega
    have hl := h.len
    obtain ⟨_, g1, g2, g3, g4, g5, g6, g7, g8⟩ := h.nums hi z0 z1
    have hw' : 1 - hm home z = w := by omega
    rw [hw'] at g1 g2 g3 g4 g5 g6 g7 g8
    have hI : P4I (0, z, 0, ((s.D w).gs z).2.2.2 + 1) := P4I_small (by simp) (by simp only; omega) (by simp) (by simp only; omega)
    have hp : PkOf home (w, 1 - w, bs (enc4 (0, z, 0, ((s.D w).gs z).2.2.2 + 1))) (0, z, 0, ((s.D w).gs z).2.2.2 + 1) :=
      ⟨rfl, hI, Or.inl rfl, z0, z1, by simp only; rw [if_neg (by omega)]; omega, by simp only; omega⟩
    have hgp : (s.D w).gp z = true := lAs_no he
    have hB : GuB (askG ((s.D w).gs z)) := by unfold askG GuB; simp only; omega
    refine ⟨?_, fun _ => hI, m3.setG hgp hB⟩
    unfold sendS
    simp only [if_true]
    have hzi := (h.zi z z0 z1).ask 0 (((s.D w).gs z).2.2.2 + 1)
    · rw [hz, show (1 : Int) - (1 - w) = w by omega] at hzi
      exact h.setG hw z0 z1 hz (sendN_len h.fl) (h.pk_send hp) hB (hzi.sub (notes_same hp rfl)) (fun y hy => notes_other hp rfl hy) (by unfold askG; simp only; have := h.asks z z0 z1; rw [hw'] at this; omega)
  · rw [if_neg he, sendS_no he]
    exact ⟨h.mono (by omega), fun h => absurd h he, m3⟩
/-- Back. -/
theorem LInv.back (h : LInv home i s) (hi : i ≤ 100000) {w : Int} (hw : w = 0 ∨ w = 1) (z : Int) : LInv home (i + 1) (sendS s w (backF (s.D w) z)) ∧ ((backF (s.D w) z).1.2 = 0 → P4I (backF (s.D w) z).1.1) ∧ (backF (s.D w) z).2.Ok := by
  obtain ⟨m1, m2, m3⟩ := h.me w hw
  unfold backF
  by_cases he : lAs (s.D w) z false = 0
  · rw [if_pos he]
    obtain ⟨z0, z1, z2⟩ := asD he
    rw [m2] at z1 z2
    rw [m1] at z2
    have h01 := hm01 h.h01 z0 z1
    have hz : hm home z = 1 - w := by have : hm home z ≠ w := by simpa using z2
                                      omega
    have hl := h.len
    by_cases hs : ((s.D w).gs z).2.2.1 < ((s.D w).gs z).2.1
    · rw [if_pos hs]
      obtain ⟨_, g1, g2, g3, g4, g5, g6, g7, g8⟩ := h.nums hi z0 z1
      have hw' : 1 - hm home z = w := by omega
      rw [hw'] at g1 g2 g3 g4 g5 g6 g7 g8
      have hI : P4I (2, z, 0, ((s.D w).gs z).2.1) := P4I_small (by simp) (by simp only; omega) (by simp) (by simp only; omega)
      have hp : PkOf home (w, 1 - w, bs (enc4 (2, z, 0, ((s.D w).gs z).2.1))) (2, z, 0, ((s.D w).gs z).2.1) :=
        ⟨rfl, hI, Or.inr (Or.inr rfl), z0, z1, by simp only; rw [if_neg (by omega)]; omega, by simp only; omega⟩
      have hB : GuB (backG ((s.D w).gs z)) := by unfold backG GuB; simp only; omega
      refine ⟨?_, fun _ => hI, m3.setG (lAs_no he) hB⟩
      unfold sendS
      simp only [if_true]
      have hzi := (h.zi z z0 z1).back 0
      · rw [hz, show (1 : Int) - (1 - w) = w by omega] at hzi
        exact h.setG hw z0 z1 hz (sendN_len h.fl) (h.pk_send hp) hB (hzi.sub (notes_same hp rfl)) (fun y hy => notes_other hp rfl hy) (by unfold backG; simp only; have := h.asks z z0 z1; rw [hw'] at this; omega)
    · rw [if_neg hs, sendS_no (by omega)]
      exact ⟨h.mono (by omega), fun h => by simp only at h; omega, m3⟩
  · rw [if_neg he, sendS_no he]
    exact ⟨h.mono (by omega), fun h => absurd h he, m3⟩
/-- Give: for so many ticks from the clock on. -/
theorem LInv.give (h : LInv home i s) (hi : i ≤ 100000) {w : Int} (hw : w = 0 ∨ w = 1) (z : Int) {unt : Int} (hu : s.clock w < unt ∧ unt ≤ s.clock w + 30) :
    LInv home (i + 1) (sendS s w (giveF (s.D w) z unt (s.clock w))) ∧ ((giveF (s.D w) z unt (s.clock w)).1.2 = 0 → P4I (giveF (s.D w) z unt (s.clock w)).1.1) ∧ (giveF (s.D w) z unt (s.clock w)).2.Ok := by
  obtain ⟨m1, m2, m3⟩ := h.me w hw
  have t := h.t; have e0 := h.a0; have e1 := h.a1
  have hc : 0 ≤ s.clock w ∧ s.clock w ≤ s.time + 2 := by unfold LS.clock LS.ahead; split <;> omega
  unfold giveF
  by_cases he : lAs (s.D w) z true = 0
  · rw [if_pos he, if_pos ⟨hu.1, by omega⟩]
    obtain ⟨z0, z1, z2⟩ := asD he
    rw [m2] at z1 z2
    rw [m1] at z2
    have h01 := hm01 h.h01 z0 z1
    have hz : hm home z = w := by simpa using z2
    have hl := h.len
    by_cases hs : ((s.D w).hs z).1 ≤ unt
    · rw [if_pos hs]
      obtain ⟨⟨g1, g2, g3, g4⟩, _⟩ := h.nums hi z0 z1
      rw [hz] at g1 g2 g3 g4
      have hI : P4I (1, z, unt, ((s.D w).hs z).2.1 + 1) := P4I_small (by simp) (by simp only; omega) (by simp only; omega) (by simp only; omega)
      have hp : PkOf home (w, 1 - w, bs (enc4 (1, z, unt, ((s.D w).hs z).2.1 + 1))) (1, z, unt, ((s.D w).hs z).2.1 + 1) :=
        ⟨rfl, hI, Or.inr (Or.inl rfl), z0, z1, by simp only; rw [if_pos trivial]; omega, by simp only; omega⟩
      have hB : HoB (giveH ((s.D w).hs z) unt) := by unfold giveH HoB; simp only; omega
      refine ⟨?_, fun _ => hI, m3.setH (lAs_yes he) hB⟩
      unfold sendS
      simp only [if_true]
      have hzi := (h.zi z z0 z1).give (unt := unt) (now := s.clock w) hc.1 ⟨hu.1, by omega, by rw [hz]; omega⟩
      · rw [hz] at hzi
        exact h.setH hw z0 z1 hz (sendN_len h.fl) (h.pk_send hp) hB (hzi.sub (notes_same hp rfl)) (fun y hy => notes_other hp rfl hy) (by unfold giveH; simp only; omega) (by unfold giveH; simp only; have := h.nos z z0 z1; rw [hz] at this; omega)
    · rw [if_neg hs, sendS_no (by omega)]
      exact ⟨h.mono (by omega), fun h => by simp only at h; omega, m3⟩
  · rw [if_neg he, sendS_no he]
    exact ⟨h.mono (by omega), fun h => absurd h he, m3⟩
/-- A note arrives. -/
theorem LInv.hear (h : LInv home i s) (hi : i ≤ 100000) {k : Nat} (hk : k < s.F.length) {n : P4} (hp : PkOf home s.F[k] n) :
    ((s.F[k]).2.1 = 0 ∨ (s.F[k]).2.1 = 1) ∧ (hearF (s.D (s.F[k]).2.1) n).1 = 0 ∧ LInv home (i + 1) { s.setD (s.F[k]).2.1 (hearF (s.D (s.F[k]).2.1) n).2 with F := s.F.eraseIdx k } := by
  have hmem : s.F[k] ∈ s.F := List.getElem_mem hk
  have hnz : ∀ z, n.2.1 = z → (n.1, n.2.2.1, n.2.2.2) ∈ notesZ z s.F := fun z hz => List.mem_filterMap.2 ⟨_, hmem, by rw [noteZ_of hp, if_pos hz]⟩
  have hsub : ∀ q ∈ s.F.eraseIdx k, q ∈ s.F := fun q hq => List.mem_of_mem_eraseIdx hq
  have hlen : (s.F.eraseIdx k).length ≤ 500 := Nat.le_trans (List.length_eraseIdx_le _ _) h.fl
  have hpk : ∀ q ∈ s.F.eraseIdx k, ∃ n, PkOf home q n := fun q hq => h.pk q (hsub q hq)
  obtain ⟨p1, p2, p3, p4, p5, p6, p7⟩ := hp
  generalize s.F[k] = p at *
  obtain ⟨kk, z, u, no⟩ := n
  simp only at p3 p4 p5 p6 p7 hnz
  have h01 := hm01 h.h01 p4 p5
  have hto : p.2.1 = 0 ∨ p.2.1 = 1 := by rw [p6]; split <;> omega
  refine ⟨hto, ?_⟩
  obtain ⟨m1, m2, m3⟩ := h.me _ hto
  have hN := h.nums hi p4 p5
  have hpI := p2
  have hself : LInv home (i + 1) { s.setD p.2.1 (s.D p.2.1) with F := s.F.eraseIdx k } := by
    rw [setD_self]
    exact (h.net hsub hlen h.sp).mono (by omega)
  unfold hearF
  simp only
  rw [if_neg (by omega)]
  rcases p3 with rfl | rfl | rfl
  · -- asked
    have hz : hm home z = p.2.1 := by rw [p6, if_neg (by omega)]
    have he : lAs (s.D p.2.1) z (decide ((0 : Int) ≠ 1)) = 0 := asD0 p4 (by rw [m2]; exact p5) (by rw [m2, m1, hz]; simp)
    rw [if_pos he, if_neg (by omega), if_pos rfl]
    refine ⟨rfl, ?_⟩
    obtain ⟨⟨g1, g2, g3, g4⟩, _⟩ := hN
    rw [hz] at g1 g2 g3 g4
    have hzi := (h.zi z p4 p5).hearH (hnz z rfl)
    rw [hz] at hzi
    have e : hearH ((s.D p.2.1).hs z) (0, u, no) = (((s.D p.2.1).hs z).1, ((s.D p.2.1).hs z).2.1, true) := by unfold hearH; rw [if_pos rfl]
    rw [e] at hzi
    exact h.setH hto p4 p5 hz hlen hpk (by unfold HoB; simp only; omega) (hzi.sub (notesZ_mem hsub)) (fun y _ => notesZ_mem hsub) (by simp only; have := h.soon z p4 p5; rw [hz] at this; exact this) (by simp only; have := h.nos z p4 p5; rw [hz] at this; omega)
  · -- given
    have hz : hm home z = 1 - p.2.1 := by rw [if_pos rfl] at p6; omega
    have he : lAs (s.D p.2.1) z (decide ((1 : Int) ≠ 1)) = 0 := asD0 p4 (by rw [m2]; exact p5) (by rw [m2, m1, hz]; simp; omega)
    rw [if_pos he, if_pos rfl]
    refine ⟨rfl, ?_⟩
    by_cases hs : ((s.D p.2.1).gs z).2.2.1 < no
    · rw [if_pos hs]
      have hzi := (h.zi z p4 p5).hearG (hnz z rfl) rfl
      have hv := (h.zi z p4 p5).gv _ (hnz z rfl) rfl
      have hw' : 1 - hm home z = p.2.1 := by omega
      obtain ⟨⟨b1, b2, b3, b4⟩, g1, g2, g3, g4, g5, g6, g7, g8⟩ := hN
      rw [hw'] at g1 g2 g3 g4 g5 g6 g7 g8 hzi hv
      rw [hz] at hzi
      obtain ⟨v1, v2, v3, v4⟩ := hv
      simp only at v1 v2 v3 v4
      have v4' := v4 hs
      exact h.setG hto p4 p5 hz hlen hpk (by unfold hearG; rw [if_pos hs]; unfold GuB; simp only; omega) (hzi.sub (notesZ_mem hsub)) (fun y _ => notesZ_mem hsub) (by unfold hearG; rw [if_pos hs]; simp only; have := h.asks z p4 p5; rw [hw'] at this; omega)
    · rw [if_neg hs]; exact hself
  · -- given back
    have hz : hm home z = p.2.1 := by rw [p6, if_neg (by omega)]
    have he : lAs (s.D p.2.1) z (decide ((2 : Int) ≠ 1)) = 0 := asD0 p4 (by rw [m2]; exact p5) (by rw [m2, m1, hz]; simp)
    rw [if_pos he, if_neg (by omega), if_neg (by omega)]
    refine ⟨rfl, ?_⟩
    by_cases hs : no = ((s.D p.2.1).hs z).2.1
    · rw [if_pos hs]
      obtain ⟨⟨g1, g2, g3, g4⟩, _⟩ := hN
      rw [hz] at g1 g2 g3 g4
      have hzi := (h.zi z p4 p5).hearH (hnz z rfl)
      rw [hz] at hzi
      have e : hearH ((s.D p.2.1).hs z) (2, u, no) = (0, ((s.D p.2.1).hs z).2.1, ((s.D p.2.1).hs z).2.2) := by unfold hearH; rw [if_neg (by simp), if_pos ⟨rfl, hs⟩]
      rw [e] at hzi
      have t := h.t; have e0 := h.a0; have e1 := h.a1
      have hc : 0 ≤ s.clock p.2.1 := by unfold LS.clock LS.ahead; split <;> omega
      exact h.setH hto p4 p5 hz hlen hpk (by unfold HoB; simp only; omega) (hzi.sub (notesZ_mem hsub)) (fun y _ => notesZ_mem hsub) (by simp only; omega) (by simp only; have := h.nos z p4 p5; rw [hz] at this; omega)
    · rw [if_neg hs]; exact hself
/-- Time passes. -/
def tickS (s : LS) (w m3 m8 : Int) : LS := if w = 0 then { s with time := s.time + m8, a0 := max m3 (s.a0 - m8) } else { s with time := s.time + m8, a1 := max m3 (s.a1 - m8) }
theorem LInv.tick (h : LInv home i s) {w m3 m8 : Int} (h3 : 0 ≤ m3 ∧ m3 < 3) (h8 : 0 ≤ m8 ∧ m8 < 8) : LInv home (i + 1) (tickS s w m3 m8) := by
  have t := h.t; have e0 := h.a0; have e1 := h.a1
  have hD : ∀ v, (tickS s w m3 m8).D v = s.D v := fun v => by unfold tickS; split <;> rfl
  have hF : (tickS s w m3 m8).F = s.F := by unfold tickS; split <;> rfl
  have hC : ∀ v, s.clock v ≤ (tickS s w m3 m8).clock v := fun v => by
    unfold tickS LS.clock LS.ahead
    split <;> split <;> simp only <;> omega
  refine ⟨h.h01, h.len, fun v hv => by rw [hD]; exact h.me v hv, ?_, by rw [hF]; exact h.fl, ?_, ?_, ?_, by rw [hF]; exact h.pk, fun z a b => by rw [hD, hD, hF]; exact h.zi z a b, fun z a b => ?_, fun z a b => ?_, fun z a b => ?_⟩
  · have := h.sp; unfold tickS; split <;> exact this
  · unfold tickS; split <;> simp only <;> omega
  · unfold tickS; split <;> simp only <;> omega
  · unfold tickS; split <;> simp only <;> omega
  · rw [hD]; have := h.soon z a b; have := hC (hm home z); omega
  · rw [hD]; have := h.nos z a b; omega
  · rw [hD]; have := h.asks z a b; omega
/-- The beginning. -/
theorem LInv.begin {home : List Int} (h01 : ∀ x ∈ home, x = 0 ∨ x = 1) (hl : home.length ≤ 64) : LInv home 0 ⟨newD 0 home, newD 1 home, [], 0, 0, 0, 0⟩ := by
  have hD : ∀ v, (v = 0 ∨ v = 1) → (⟨newD 0 home, newD 1 home, [], 0, 0, 0, 0⟩ : LS).D v = newD v home := fun v hv => by
    rcases hv with rfl | rfl <;> rfl
  refine ⟨h01, hl, fun v hv => by rw [hD v hv]; exact ⟨rfl, rfl, newD_ok hv hl h01⟩, .inl rfl, by simp, by simp, by simp, by simp, by simp, fun z a b => ?_, fun z a b => ?_, fun z a b => ?_, fun z a b => ?_⟩
  all_goals
    have y01 := hm01 h01 a b
    have y10 : 1 - hm home z = 0 ∨ 1 - hm home z = 1 := by omega
  · rw [hD _ y01, hD _ y10]; exact ZI.start
  · rw [hD _ y01]; show (0 : Int) ≤ _; unfold LS.clock LS.ahead; split <;> simp
  · rw [hD _ y01]; show (0 : Int) ≤ 0; omega
  · rw [hD _ y10]; show (0 : Int) ≤ 0 ∧ (0 : Int) ≤ 0; omega
end
end Go.Proofs.YtappgjdnfllblaaDoor
