
/- Game: the closures of good and Answer; good. -/
import Derived.Test.YtdjjhflhdhihcaaGamI
import Derived.Shelf.Abstract
import Derived.Laws.EntriesVeiled
set_option linter.unusedSimpArgs false
set_option linter.unusedVariables false
namespace Go.Proofs.Ytdjjhflhdhihcaa
open Go.RowKit Go.IntWalk Go.Shelf

/-- The closure 'bad' of good. -/
def badF (R : List Int) (p : Nat) (x : Int) : Bool := decide (R.getD x.toNat 0 < 0) || decide (R.getD p 0 ≤ R.getD x.toNat 0)
set_option maxRecDepth 100000 in
set_option maxHeartbeats 1000000 in
theorem bad_any (A : Option Addr) (c : Nat) (R : List Int) (p gr gp : Nat) (x : Int) (w : World) (hl : R.length ≤ maxLen) (hR : SlR w w.heap.size A R) (hx : 0 ≤ x ∧ x < R.length) (hp : p < R.length)
    (xr : Blk w gr 34 #[.slice A R.length c]) (xp : Blk w gp 3 #[.int .i64 p]) :
    Calls Try.prog 32 #[.int .i64 x, .pointer (some ⟨gr, 0, none⟩), .pointer (some ⟨gp, 0, none⟩)] w fun e w' => e = .returned (.bool (badF R p x)) ∧ Below w.heap.size w w' := by
  unfold maxLen at hl
  obtain ⟨t, rfl⟩ : ∃ t : Nat, x = t := ⟨x.toNat, by omega⟩
  have ht : t < R.length := by omega
  have ht' : (t : Int) < R.length := by omega
  have hp' : (p : Int) < R.length := by omega
  obtain ⟨b, off, rfl, hb, h1, _⟩ := hR.int ht
  obtain h2 := hR.int_at hp
  have y1 := xr.cell 0; have y2 := xp.cell 0; have z1 := xr.lt; have z2 := xp.lt
  simp at y1 y2
  have hbf := hid (show badF R p t = (decide (R[t] < 0) || decide (R[p] ≤ R[t])) by simp [badF, ht, hp])
  clear hR xr xp hx
  generalize R[t] = u at *
  generalize R[p] = v at *
  by_cases hu : u < 0
  · have dx : decide (u < 0) = true := by simpa using hu
    go_enter Try.func32, Try.ntmps32
    go_wp2_with fail
    go_quiet (fail)
    go_wp2_with fail
    go_ret
    exact ⟨ret_bool (by rw [hbf.out]; simp [hu]; try omega), below_drewN (Below.refl _ _) _⟩
  · have dx : decide (u < 0) = false := by simpa using hu
    go_enter Try.func32, Try.ntmps32
    go_wp2_with fail
    go_quiet (fail)
    go_wp2_with fail
    go_ret
    exact ⟨ret_bool (by rw [hbf.out]; simp [hu]; try omega), below_drewN (Below.refl _ _) _⟩
set_option maxRecDepth 100000 in
set_option maxHeartbeats 1000000 in
/-- The second closure: a move all of whose positions are won earlier. -/
theorem gmv_any (A : Option Addr) (c : Nat) (R : List Int) (p gr gp gb : Nat) (act : Int) (A2 : Option Addr) (c2 : Nat) (tos : List Int) (w : World) (hl : R.length ≤ maxLen) (hR : SlR w w.heap.size A R) (hp : p < R.length)
    (xr : Blk w gr 34 #[.slice A R.length c]) (xp : Blk w gp 3 #[.int .i64 p]) (xb : Blk w gb 71 #[.func (.func 32) #[] #[.pointer (some ⟨gr, 0, none⟩), .pointer (some ⟨gp, 0, none⟩)]])
    (hs : SlR w w.heap.size A2 tos) (hlt : tos.length ≤ maxLen) (ht : ∀ x ∈ tos, 0 ≤ x ∧ x < R.length) :
    Calls Try.prog 34 #[.agg #[.int .i64 act, .slice A2 tos.length c2], .pointer (some ⟨gb, 0, none⟩)] w fun e w' => e = .returned (.bool (!tos.any (badF R p))) ∧ Below w.heap.size w w' := by
  have hB1 := hid (show Below w.heap.size w (w.alloc (Obj.cells #[.int .i64 act, .slice A2 tos.length c2] 49)) by (repeat (first | exact Below.refl _ _ | assumption | refine below_drewN ?_ _ | refine Below.drew ?_ | refine Below.alloc ?_ (by (try simp); (try omega)) _ | refine Below.setCell ?_ (by (try simp); (try omega)) _)))
  have X1 := hid (Blk.new w 49 #[.int .i64 act, .slice A2 tos.length c2])
  have hlb : tos.length ≤ 9223372036854775807 := by unfold maxLen at hlt; omega
  have HC := hid (cti_any 32 #[.pointer (some ⟨gr, 0, none⟩), .pointer (some ⟨gp, 0, none⟩)] (enters_of Try.func32 (by kernel_rfl) rfl) A2 c2 tos (badF R p) _ hlt ((hs.below hB1.out).more hB1.out.size) (fun x W hx hW => by
    have hW0 := hB1.out.trans (hW.mono hB1.out.size)
    exact (bad_any A c R p gr gp x W hl ((hR.below hW0).more hW0.size) (ht x hx) hp (xr.below hW0 xr.lt) (xp.below hW0 xp.lt)).mono (fun e w' ⟨he, hb⟩ => ⟨he, hW.trans (hb.mono hW.size)⟩)))
  have y1 := (xb.below hB1.out xb.lt).cell 0; have z1 := xb.lt
  simp at y1
  clear hs ht hR xr xp xb
  go_enter Try.func34, Try.ntmps34
  go_upto_region 1 with fail
  generalize hw1 : w.alloc (Obj.cells #[.int .i64 act, .slice A2 tos.length c2] 49) = w1 at *
  have hz9 : gb < w1.heap.size := by have := hB1.out.size; omega
  have hz8 : w.heap.size < w1.heap.size := by rw [← hw1]; simp
  clear hw1
  have y2 := X1.out.cell 1
  simp at y2
  go_wp2_with fail
  refine HC.out.mono ?_
  rintro e w2 ⟨rfl, hB2⟩
  have HB := hid (hB1.out.trans (hB2.mono hB1.out.size))
  clear hB2 HC
  go_wp2_with fail
  go_ret
  exact ⟨rfl, HB.out⟩
/-- Is the j-th move of a position good? -/
def gdF (R : List Int) (p : Nat) (l : List Mv) (j : Nat) : Bool := !(l.getD j (0, [])).2.any (badF R p)
set_option maxRecDepth 100000 in
set_option maxHeartbeats 2000000 in
theorem good_any (Ag Am A : Option Addr) (cg cm c : Nat) (g : Gm) (R : List Int) (p k0 : Nat) (w : World) (h : GmR w w.heap.size Ag Am g) (hl : R.length ≤ maxLen) (hR : SlR w w.heap.size A R) (hp : p < g.2.length) (hpr : p < R.length)
    (ht : ∀ m ∈ g.2[p], ∀ x ∈ m.2, 0 ≤ x ∧ x < R.length) (hk0 : k0 < g.2[p].length) (hg0 : gdF R p g.2[p] k0 = true) (hlow : ∀ j, j < k0 → gdF R p g.2[p] j = false) :
    Calls Try.prog 22 #[.agg #[.slice Ag g.1.length cg, .slice Am g.2.length cm], .slice A R.length c, .int .i64 p] w fun e w' => e = .returned (.int .i64 (g.2[p][k0]).1) ∧ Below w.heap.size w w' := by
  obtain ⟨goal, mvs⟩ := g
  simp only at *
  have hL := h.mvs.list hp
  simp only at hL
  generalize mvs[p] = l at *
  have hlm : mvs.length ≤ 9223372036854775807 := by have := h.lm; unfold maxLen at this; simpa using this
  obtain ⟨w1, hw1⟩ : ∃ w1, w1 = (w.alloc (Obj.cells #[.slice Ag goal.length cg, .slice Am mvs.length cm] 25)) := ⟨_, rfl⟩
  obtain ⟨w2, hw2⟩ : ∃ w2, w2 = (w1.alloc (Obj.cells #[.slice A R.length c] 34)) := ⟨_, rfl⟩
  obtain ⟨w3, hw3⟩ : ∃ w3, w3 = (w2.alloc (Obj.cells #[.int .i64 (p : Int)] 3)) := ⟨_, rfl⟩
  obtain ⟨w4, hw4⟩ : ∃ w4, w4 = (w3.alloc (Obj.cells #[.func (.func 32) #[] #[.pointer (some ⟨w.heap.size + 1, 0, none⟩), .pointer (some ⟨w.heap.size + 1 + 1, 0, none⟩)]] 71)) := ⟨_, rfl⟩
  have s1 : w1.heap.size = w.heap.size + 1 := by rw [hw1]; simp
  have s2 : w2.heap.size = w.heap.size + 1 + 1 := by rw [hw2]; simp [s1]
  have s3 : w3.heap.size = w.heap.size + 1 + 1 + 1 := by rw [hw3]; simp [s2]
  have s4 : w4.heap.size = w.heap.size + 1 + 1 + 1 + 1 := by rw [hw4]; simp [s3]
  have B1 : Below w.heap.size w w1 := by rw [hw1]; (repeat (first | exact Below.refl _ _ | assumption | refine below_drewN ?_ _ | refine Below.drew ?_ | refine Below.alloc ?_ (by (try simp); (try omega)) _ | refine Below.setCell ?_ (by (try simp); (try omega)) _))
  have B4 : Below w.heap.size w w4 := by rw [hw4, hw3, hw2, hw1]; (repeat (first | exact Below.refl _ _ | assumption | refine below_drewN ?_ _ | refine Below.drew ?_ | refine Below.alloc ?_ (by (try simp); (try omega)) _ | refine Below.setCell ?_ (by (try simp); (try omega)) _))
  have x1 : Blk w4 w.heap.size 25 #[.slice Ag goal.length cg, .slice Am mvs.length cm] := by rw [hw4, hw3, hw2, hw1]; exact ((((Blk.new w _ _).alloc _).alloc _).alloc _)
  have x2 : Blk w4 (w.heap.size + 1) 34 #[.slice A R.length c] := by rw [hw4, hw3, hw2]; exact (((Blk.new_at (by rw [s1])).alloc _).alloc _)
  have x3 : Blk w4 (w.heap.size + 1 + 1) 3 #[.int .i64 p] := by rw [hw4, hw3]; exact ((Blk.new_at (by rw [s2])).alloc _)
  have x4 : Blk w4 (w.heap.size + 1 + 1 + 1) 71 #[.func (.func 32) #[] #[.pointer (some ⟨w.heap.size + 1, 0, none⟩), .pointer (some ⟨w.heap.size + 1 + 1, 0, none⟩)]] := by rw [hw4]; exact Blk.new_at (g := w.heap.size + 1 + 1 + 1) (by rw [s3])
  have n4 : Blk (w3.alloc (Obj.cells #[.nilFunc] 71)) (w.heap.size + 1 + 1 + 1) 71 #[.nilFunc] := Blk.new_at (by rw [s3])
  have n5 := n4.cell 0
  have n6 := n4.frozen 0
  simp only [List.getElem?_toArray, List.getElem?_cons_zero] at n5
  obtain ⟨b, off, A', c', rfl, hb, hc, h1, h2, h3⟩ := hL
  have hc4 := (bcell B4 b _ hb).trans hc
  have hc0 := hid hc
  have HC := hid (ixm_any 34 #[.pointer (some ⟨w.heap.size + 1 + 1 + 1, 0, none⟩)] (enters_of Try.func34 (by kernel_rfl) rfl) A' c' l (gdF R p l) w4 (Nat.le_trans h1 h2) ((h3.below B4).more B4.size) (fun k hk W A2 c2 hW hs hlt => by
    have hW0 := B4.trans (hW.mono B4.size)
    have hgd : gdF R p l k = !(l[k]).2.any (badF R p) := by simp [gdF, hk]
    rw [hgd]
    exact (gmv_any A c R p _ _ _ _ A2 c2 _ W hl ((hR.below hW0).more hW0.size) hpr (x2.below hW x2.lt) (x3.below hW x3.lt) (x4.below hW x4.lt) hs hlt (ht _ (List.getElem_mem hk))).mono (fun e w' ⟨he, hb⟩ => ⟨he, hW.trans (hb.mono hW.size)⟩)))
  have HX := hid (show ∀ r, IxR (gdF R p l) l.length r → r = k0 from fun r hr => hr.uniq (.inl ⟨k0, hk0, rfl, hg0, hlow⟩))
  have hfin := hid (h3.mv hk0)
  have X1 := hid x1; have X3 := hid x3
  have BB := hid B4
  have hp9 : p < mvs.length := hp
  have hp' : (p : Int) < mvs.length := by omega
  have hk0' : (k0 : Int) < l.length := by omega
  have hlp : l.length ≤ 9223372036854775807 := by unfold maxLen at h2; omega
  have y1 := x1.cell 1; have y3 := x3.cell 0; have y4 := x4.cell 0; have z1 := x1.lt; have z3 := x3.lt; have z4 := x4.lt
  simp at y1 y3 y4
  have hz : b < w4.heap.size := by have := B4.size; omega
  have HW4 := hid hw4; have HW3 := hid hw3; have HW2 := hid hw2; have HW1 := hid hw1
  clear ht hlow hg0 h3 hc h hR x1 x2 x3 x4 B1 B4 hw1 hw2 hw3 hw4 h1 h2
  go_enter Try.func22, Try.ntmps22
  go_upto_region 1 with fail
  rw [← HW1.out, ← HW2.out, ← HW3.out]
  go_upto_region 2 with fail
  rw [← HW4.out]
  clear n4 n5 n6 HW1 HW2 HW3 HW4
  go_wp2_with fail
  refine HC.out.mono ?_
  rintro e w9 ⟨r, rfl, hr, hB9⟩
  obtain rfl := HX.out r hr
  have hBB := hid (BB.out.trans (hB9.mono BB.out.size))
  have y1 := (X1.out.below hB9 X1.out.lt).cell 1; have y3 := (X3.out.below hB9 X3.out.lt).cell 0; have z1 := (X1.out.below hB9 X1.out.lt).lt; have z3 := (X3.out.below hB9 X3.out.lt).lt
  obtain ⟨b2, off2, A2, c2, rfl, hb2, g0, _⟩ := hfin.out
  have hc9 := (bcell hBB.out b _ hb).trans hc0.out
  replace g0 := (bcell hBB.out b2 _ hb2).trans g0
  have hz9 := hBB.out.size
  have hz8 : b < w9.heap.size := by omega
  have hz7 : b2 < w9.heap.size := by omega
  simp at y1 y3
  clear hB9 hr HX HC hfin
  go_wp2_with fail
  go_ret
  exact ⟨rfl, hBB.out⟩
end Go.Proofs.Ytdjjhflhdhihcaa
