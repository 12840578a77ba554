
/- Lease, plain: a desk's numbers stay in bounds; two desks in memory. -/
import Derived.Test.YtappgjdnfllblaaDoorLeaU
set_option linter.unusedSimpArgs false
set_option linter.unusedVariables false
namespace Go.Proofs.YtappgjdnfllblaaDoor
open Go.RowKit Go.IntWalk Go.Maps Go.WideMaps
section
variable {d : LDk} {M z : Int}
theorem In.setH (hi : d.In M) {x : Ho} (h : 0 ≤ x.1 ∧ x.1 ≤ M ∧ 0 ≤ x.2.1 ∧ x.2.1 ≤ M) : (d.setH z x).In M := fun y => by
  obtain ⟨h1, h2⟩ := hi y
  refine ⟨?_, h2⟩
  by_cases e : y = z
  · simp only [LDk.setH, if_pos e]; exact h
  · simp only [LDk.setH, if_neg e]; exact h1
theorem In.setG (hi : d.In M) {x : Gu} (h : 0 ≤ x.1 ∧ x.1 ≤ M ∧ 0 ≤ x.2.1 ∧ x.2.1 ≤ M ∧ 0 ≤ x.2.2.1 ∧ x.2.2.1 ≤ M ∧ 0 ≤ x.2.2.2 ∧ x.2.2.2 ≤ M) : (d.setG z x).In M := fun y => by
  obtain ⟨h1, h2⟩ := hi y
  refine ⟨h1, ?_⟩
  by_cases e : y = z
  · simp only [LDk.setG, if_pos e]; exact h
  · simp only [LDk.setG, if_neg e]; exact h2
theorem hoB_of {x : Ho} (h : 0 ≤ x.1 ∧ x.1 ≤ M ∧ 0 ≤ x.2.1 ∧ x.2.1 ≤ M) (hM : M ≤ 4398046511104) : HoB x := ⟨⟨by omega, by omega⟩, by omega, by omega⟩
theorem guB_of {x : Gu} (h : 0 ≤ x.1 ∧ x.1 ≤ M ∧ 0 ≤ x.2.1 ∧ x.2.1 ≤ M ∧ 0 ≤ x.2.2.1 ∧ x.2.2.1 ≤ M ∧ 0 ≤ x.2.2.2 ∧ x.2.2.2 ≤ M) (hM : M ≤ 4398046511104) : GuB x := ⟨⟨by omega, by omega⟩, ⟨by omega, by omega⟩, ⟨by omega, by omega⟩, by omega, by omega⟩
/-- What a desk is and what its numbers are. -/
def OkI (d : LDk) (M : Int) : Prop := d.Ok ∧ d.In M
theorem askF_ok (h : OkI d M) (h0 : 0 ≤ M) (hM : M + 1 ≤ 4398046511104) (z : Int) : OkI (askF d z).2 (M + 1) ∧ (askF d z).2.home = d.home ∧ (askF d z).2.me = d.me := by
  unfold askF
  have hi := h.2.mono (show M ≤ M + 1 by omega)
  have hz := (h.2 z).2
  split
  · rename_i he
    have hx : 0 ≤ (askG (d.gs z)).1 ∧ (askG (d.gs z)).1 ≤ M + 1 ∧ 0 ≤ (askG (d.gs z)).2.1 ∧ (askG (d.gs z)).2.1 ≤ M + 1 ∧ 0 ≤ (askG (d.gs z)).2.2.1 ∧ (askG (d.gs z)).2.2.1 ≤ M + 1 ∧ 0 ≤ (askG (d.gs z)).2.2.2 ∧ (askG (d.gs z)).2.2.2 ≤ M + 1 := by
      unfold askG; simp only; omega
    exact ⟨⟨h.1.setG (lAs_no he) (guB_of hx hM), In.setG hi hx⟩, rfl, rfl⟩
  · exact ⟨⟨h.1, hi⟩, rfl, rfl⟩
theorem backF_ok (h : OkI d M) (h0 : 0 ≤ M) (hM : M ≤ 4398046511104) (z : Int) : OkI (backF d z).2 M ∧ (backF d z).2.home = d.home ∧ (backF d z).2.me = d.me := by
  unfold backF
  have hz := (h.2 z).2
  split
  · rename_i he
    split
    · have hx : 0 ≤ (backG (d.gs z)).1 ∧ (backG (d.gs z)).1 ≤ M ∧ 0 ≤ (backG (d.gs z)).2.1 ∧ (backG (d.gs z)).2.1 ≤ M ∧ 0 ≤ (backG (d.gs z)).2.2.1 ∧ (backG (d.gs z)).2.2.1 ≤ M ∧ 0 ≤ (backG (d.gs z)).2.2.2 ∧ (backG (d.gs z)).2.2.2 ≤ M := by
        unfold backG; simp only; omega
      exact ⟨⟨h.1.setG (lAs_no he) (guB_of hx hM), In.setG h.2 hx⟩, rfl, rfl⟩
    · exact ⟨h, rfl, rfl⟩
  · exact ⟨h, rfl, rfl⟩
theorem giveF_ok (h : OkI d M) (h0 : 0 ≤ M) (hM : M + 1 ≤ 4398046511104) (z unt now : Int) (hn : 0 ≤ now) (hu : now + 1000 ≤ M) : OkI (giveF d z unt now).2 (M + 1) ∧ (giveF d z unt now).2.home = d.home ∧ (giveF d z unt now).2.me = d.me := by
  unfold giveF
  have hi := h.2.mono (show M ≤ M + 1 by omega)
  have hz := (h.2 z).1
  split
  · rename_i he
    split
    · rename_i hc
      split
      · have hx : 0 ≤ (giveH (d.hs z) unt).1 ∧ (giveH (d.hs z) unt).1 ≤ M + 1 ∧ 0 ≤ (giveH (d.hs z) unt).2.1 ∧ (giveH (d.hs z) unt).2.1 ≤ M + 1 := by
          unfold giveH; simp only; omega
        exact ⟨⟨h.1.setH (lAs_yes he) (hoB_of hx hM), In.setH hi hx⟩, rfl, rfl⟩
      · exact ⟨⟨h.1, hi⟩, rfl, rfl⟩
    · exact ⟨⟨h.1, hi⟩, rfl, rfl⟩
  · exact ⟨⟨h.1, hi⟩, rfl, rfl⟩
theorem hearF_ok (h : OkI d M) (h0 : 0 ≤ M) (hM : M ≤ 4398046511104) (n : P4) (hu : n.2.2.1 ≤ M) (hn : n.2.2.2 ≤ M) : OkI (hearF d n).2 M ∧ (hearF d n).2.home = d.home ∧ (hearF d n).2.me = d.me := by
  unfold hearF
  have hz := h.2 n.2.1
  obtain ⟨hz1, hz2⟩ := hz
  split
  · exact ⟨h, rfl, rfl⟩
  · split
    · rename_i he
      by_cases h1 : n.1 = 1
      · simp only [if_pos h1]
        have he' : lAs d n.2.1 false = 0 := by simpa [h1] using he
        split
        · rename_i hs
          have hx : 0 ≤ (hearG (d.gs n.2.1) (n.1, n.2.2.1, n.2.2.2)).1 ∧ (hearG (d.gs n.2.1) (n.1, n.2.2.1, n.2.2.2)).1 ≤ M ∧ 0 ≤ (hearG (d.gs n.2.1) (n.1, n.2.2.1, n.2.2.2)).2.1 ∧ (hearG (d.gs n.2.1) (n.1, n.2.2.1, n.2.2.2)).2.1 ≤ M ∧ 0 ≤ (hearG (d.gs n.2.1) (n.1, n.2.2.1, n.2.2.2)).2.2.1 ∧ (hearG (d.gs n.2.1) (n.1, n.2.2.1, n.2.2.2)).2.2.1 ≤ M ∧ 0 ≤ (hearG (d.gs n.2.1) (n.1, n.2.2.1, n.2.2.2)).2.2.2 ∧ (hearG (d.gs n.2.1) (n.1, n.2.2.1, n.2.2.2)).2.2.2 ≤ M := by
            unfold hearG; rw [if_pos hs]; simp only; omega
          exact ⟨⟨h.1.setG (lAs_no he') (guB_of hx hM), In.setG h.2 hx⟩, rfl, rfl⟩
        · exact ⟨h, rfl, rfl⟩
      · simp only [if_neg h1]
        have he' : lAs d n.2.1 true = 0 := by simpa [h1] using he
        split
        · have hx : 0 ≤ (((d.hs n.2.1).1, (d.hs n.2.1).2.1, true) : Ho).1 ∧ (((d.hs n.2.1).1, (d.hs n.2.1).2.1, true) : Ho).1 ≤ M ∧ 0 ≤ (((d.hs n.2.1).1, (d.hs n.2.1).2.1, true) : Ho).2.1 ∧ (((d.hs n.2.1).1, (d.hs n.2.1).2.1, true) : Ho).2.1 ≤ M := by simp only; omega
          exact ⟨⟨h.1.setH (lAs_yes he') (hoB_of hx hM), In.setH h.2 hx⟩, rfl, rfl⟩
        · split
          · have hx : 0 ≤ ((0, (d.hs n.2.1).2.1, (d.hs n.2.1).2.2) : Ho).1 ∧ ((0, (d.hs n.2.1).2.1, (d.hs n.2.1).2.2) : Ho).1 ≤ M ∧ 0 ≤ ((0, (d.hs n.2.1).2.1, (d.hs n.2.1).2.2) : Ho).2.1 ∧ ((0, (d.hs n.2.1).2.1, (d.hs n.2.1).2.2) : Ho).2.1 ≤ M := by simp only; omega
            exact ⟨⟨h.1.setH (lAs_yes he') (hoB_of hx hM), In.setH h.2 hx⟩, rfl, rfl⟩
          · exact ⟨h, rfl, rfl⟩
    · exact ⟨h, rfl, rfl⟩
theorem newD_okI {me : Int} {home : List Int} (h1 : me = 0 ∨ me = 1) (h2 : home.length ≤ 64) (h3 : ∀ x ∈ home, x = 0 ∨ x = 1) (h0 : 0 ≤ M) : OkI (newD me home) M := ⟨newD_ok h1 h2 h3, newD_in me home M h0⟩
end
/-- Two desks in memory. -/
structure Tw (w0 wx : World) (A B : DM) (da db : LDk) : Prop where
  below : Below w0.heap.size w0 wx
  xa : w0.heap.size ≤ A.x
  xb : w0.heap.size ≤ B.x
  la : LdM wx A da
  lb : LdM wx B db
  sep : Apart2 A B
section
variable {w w' w0 wx wy : World} {A B : DM} {da db d : LDk}
theorem Tw.step (h : Tw w0 wx A B da db) (hb : Below wx.heap.size wx wy) : Tw w0 wy A B da db :=
  ⟨h.below.trans (hb.mono h.below.size), h.xa, h.xb, h.la.below hb, h.lb.below hb, h.sep⟩
theorem Tw.flip (h : Tw w0 wx A B da db) : Tw w0 wx B A db da := ⟨h.below, h.xb, h.xa, h.lb, h.la, ⟨h.sep.1.symm, h.sep.2.2.1.symm, h.sep.2.1.symm, h.sep.2.2.2.symm⟩⟩
theorem Tw.desk0 (h : Tw w0 wx A B da db) {q : Nat} (hq : q = A.mh ∨ q = A.mg) (hd : LdM wy A d) (hg : wx.grownBy wy (some q)) : Tw w0 wy A B d db := by
  have C : Chg wx wy (fun k => k = q) := Chg.of_grown hg (fun k e => by injection e)
  have nb : ∀ {g : Nat} {t : TypeId} {cs : Array Value}, Blk wx g t cs → ¬ g = q := fun hb => by
    rcases hq with rfl | rfl
    · exact h.la.h.noblk hb
    · exact h.la.g.noblk hb
  have nr : ∀ {base n sz : Nat} {e : TypeId} {u : Value} {xs : List Value}, wx.ownsRow base e sz u n xs → ∀ g, u.ownBlock = some g → ¬ g = q := fun hr g hg => by
    obtain ⟨_, cs, hb⟩ := own_blk hr g hg
    exact nb hb
  obtain ⟨s1, s2, s3, s4⟩ := h.sep
  refine ⟨C.low h.below (fun k hk => ?_), h.xa, h.xb, hd, h.lb.chg C (nb h.lb.k) ?_ ?_ (nr h.lb.r), h.sep⟩
  · have hk : k = q := hk
    have := h.la.ha; have := h.la.ga; have := h.xa
    rcases hq with e | e <;> omega
  · intro e; have e : B.mh = q := e; rcases hq with e2 | e2 <;> omega
  · intro e; have e : B.mg = q := e; rcases hq with e2 | e2 <;> omega
theorem Tw.desk1 (h : Tw w0 wx A B da db) {q : Nat} (hq : q = B.mh ∨ q = B.mg) (hd : LdM wy B d) (hg : wx.grownBy wy (some q)) : Tw w0 wy A B da d := (h.flip.desk0 hq hd hg).flip
end
end Go.Proofs.YtappgjdnfllblaaDoor
