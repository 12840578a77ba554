
/- Petri: the laws' small. -/
import Derived.Test.YtbbogflibekgfaaDoorPetSd
import Derived.Test.YtbbogflibekgfaaDoorFlat
set_option linter.unusedSimpArgs false
set_option linter.unusedVariables false
namespace Go.Proofs.YtbbogflibekgfaaDoor
open Go.RowKit Go.IntWalk Go.Shelf

def exT : List Tr := [([0], [1]), ([1], [0]), ([1, 2], [0])]
theorem exW : WordsR 3 [1, 2, 4, 3, 5, 6, 7] := ⟨by decide, by decide +kernel⟩
theorem exS {ws : List Nat} (h : WordsR 3 ws) : minF (edgesN (3, exT) false) ws = [4, 3] := by
  rw [h.uniq (by omega) exW]
  decide +kernel
theorem exL : ([4, 3] : List Nat).map listN = [[2], [0, 1]] := by decide +kernel
theorem exOK : netOK (3, exT) = true := by decide
theorem exF : fireN 3 exT [0, 1, 1] 2 = ([1, 0, 0], 0) := by decide
theorem exI1 : isN 3 exT true [0, 1] = true := by decide +kernel
theorem exI2 : isN 3 exT true [2] = false := by decide +kernel
theorem i64s (x : Int) (h : -1000000 ≤ x ∧ x ≤ 1000000) : I64 x := ⟨by omega, by omega⟩
theorem slr_ints {w : World} {g : Nat} {l : List Int} (hb : Blk w g 3 (l.map (Value.int .i64)).toArray) (hi : ∀ x ∈ l, -1000000 ≤ x ∧ x ≤ 1000000) : SlR w w.heap.size (some ⟨g, 0, none⟩) l := hb.ints hb.lt (fun x hx => i64s x (hi x hx))
theorem slr_T {w : World} {g g0 g1 g2 g3 g4 g5 : Nat} (b0 : Blk w g0 3 #[.int .i64 0]) (b1 : Blk w g1 3 #[.int .i64 1]) (b2 : Blk w g2 3 #[.int .i64 1]) (b3 : Blk w g3 3 #[.int .i64 0]) (b4 : Blk w g4 3 #[.int .i64 1, .int .i64 2]) (b5 : Blk w g5 3 #[.int .i64 0])
    (b : Blk w g 29 #[.slice (some ⟨g0, 0, none⟩) 1 1, .slice (some ⟨g1, 0, none⟩) 1 1, .slice (some ⟨g2, 0, none⟩) 1 1, .slice (some ⟨g3, 0, none⟩) 1 1, .slice (some ⟨g4, 0, none⟩) 2 2, .slice (some ⟨g5, 0, none⟩) 1 1]) : SlR w w.heap.size (some ⟨g, 0, none⟩) exT := by
  have one : ∀ {g : Nat} {x : Int}, Blk w g 3 #[.int .i64 x] → -1000000 ≤ x ∧ x ≤ 1000000 → Rep.rep w w.heap.size [.slice (some ⟨g, 0, none⟩) 1 1] ([x] : List Int) := fun {g x} hb hx =>
    ⟨some ⟨g, 0, none⟩, 1, rfl, Nat.le_refl _, by unfold maxLen; simp, slr_ints (l := [x]) hb (by intro y hy; simp at hy; subst hy; exact hx)⟩
  have two : Rep.rep w w.heap.size [.slice (some ⟨g4, 0, none⟩) 2 2] ([1, 2] : List Int) :=
    ⟨some ⟨g4, 0, none⟩, 2, rfl, Nat.le_refl _, by unfold maxLen; simp, slr_ints (l := [1, 2]) b4 (by intro y hy; simp at hy; omega)⟩
  refine slr_flat [[.slice (some ⟨g0, 0, none⟩) 1 1, .slice (some ⟨g1, 0, none⟩) 1 1], [.slice (some ⟨g2, 0, none⟩) 1 1, .slice (some ⟨g3, 0, none⟩) 1 1], [.slice (some ⟨g4, 0, none⟩) 2 2, .slice (some ⟨g5, 0, none⟩) 1 1]] b rfl (by intro c hc; simp at hc; rcases hc with rfl | rfl | rfl <;> rfl) fun k hk => ?_
  have hk3 : k < 3 := hk
  match k, hk3 with
  | 0, _ => exact ⟨_, _, rfl, rfl, rfl, one b0 (by omega), one b1 (by omega)⟩
  | 1, _ => exact ⟨_, _, rfl, rfl, rfl, one b2 (by omega), one b3 (by omega)⟩
  | 2, _ => exact ⟨_, _, rfl, rfl, rfl, two, one b5 (by omega)⟩
set_option maxRecDepth 100000 in
set_option maxHeartbeats 4000000 in
theorem psmall_any (w : World) (hE : Env w) : Calls Tryd.prog 8 #[] w fun e w' => e = .returned (.bool true) ∧ Below w.heap.size w w' := by
  obtain ⟨w2, hw2⟩ : ∃ w2, w2 = ((((((((w.alloc (Obj.cells #[Value.int IntKind.i64 0] 3)).alloc (Obj.cells #[Value.int IntKind.i64 1] 3)).alloc (Obj.cells #[Value.int IntKind.i64 1] 3)).alloc (Obj.cells #[Value.int IntKind.i64 0] 3)).alloc (Obj.cells #[Value.int IntKind.i64 1, Value.int IntKind.i64 2] 3)).alloc (Obj.cells #[Value.int IntKind.i64 0] 3)).alloc (Obj.cells #[Value.slice (some { block := w.heap.size, off := 0 }) 1 1, Value.slice (some { block := w.heap.size + 1, off := 0 }) 1 1, Value.slice (some { block := w.heap.size + 1 + 1, off := 0 }) 1 1, Value.slice (some { block := w.heap.size + 1 + 1 + 1, off := 0 }) 1 1, Value.slice (some { block := w.heap.size + 1 + 1 + 1 + 1, off := 0 }) 2 2, Value.slice (some { block := w.heap.size + 1 + 1 + 1 + 1 + 1, off := 0 }) 1 1] 29)).alloc (Obj.cells #[Value.int IntKind.i64 3, Value.slice (some { block := w.heap.size + 1 + 1 + 1 + 1 + 1 + 1, off := 0 }) 3 3] 24)) := ⟨_, rfl⟩
  have B2 := hid (show Below w.heap.size w w2 by rw [hw2]; (repeat (first | exact Below.refl _ _ | assumption | refine below_drewN ?_ _ | refine Below.drew ?_ | refine Below.alloc ?_ (by (try simp); (try omega)) _ | refine Below.setCell ?_ (by (try simp); (try omega)) _)))
  have X2 := hid (show Blk w2 (w.heap.size + 1 + 1 + 1 + 1 + 1 + 1 + 1) 24 #[.int .i64 3, .slice (some ⟨w.heap.size + 1 + 1 + 1 + 1 + 1 + 1, 0, none⟩) 3 3] by rw [hw2]; exact Blk.new_at (by simp))
  have SN := hid (show SlR w2 w2.heap.size (some ⟨w.heap.size + 1 + 1 + 1 + 1 + 1 + 1, 0, none⟩) exT from slr_T (g0 := w.heap.size) (g1 := w.heap.size + 1) (g2 := w.heap.size + 1 + 1) (g3 := w.heap.size + 1 + 1 + 1) (g4 := w.heap.size + 1 + 1 + 1 + 1) (g5 := w.heap.size + 1 + 1 + 1 + 1 + 1)
    (by rw [hw2]; exact (((((((Blk.new_at (by simp)).alloc _).alloc _).alloc _).alloc _).alloc _).alloc _).alloc _)
    (by rw [hw2]; exact ((((((Blk.new_at (by simp)).alloc _).alloc _).alloc _).alloc _).alloc _).alloc _)
    (by rw [hw2]; exact (((((Blk.new_at (by simp)).alloc _).alloc _).alloc _).alloc _).alloc _)
    (by rw [hw2]; exact ((((Blk.new_at (by simp)).alloc _).alloc _).alloc _).alloc _)
    (by rw [hw2]; exact (((Blk.new_at (by simp)).alloc _).alloc _).alloc _)
    (by rw [hw2]; exact ((Blk.new_at (by simp)).alloc _).alloc _)
    (by rw [hw2]; exact (Blk.new_at (by simp)).alloc _))
  have HE2 := hid (hE.below B2.out hE.pos)
  go_enter Tryd.func8, Tryd.ntmps8
  go_upto_region 2 with fail
  rw [← hw2]
  clear hw2 hE
  generalize w.heap.size + 1 + 1 + 1 + 1 + 1 + 1 + 1 = gN at *
  generalize w.heap.size + 1 + 1 + 1 + 1 + 1 + 1 = gT at *
  have HSI := hid (show Calls Tryd.prog 11 #[.agg #[.int .i64 3, .slice (some ⟨gT, 0, none⟩) 3 3]] w2 fun e w' => ∃ A' c', e = .returned (.tuple #[.slice A' 2 c', .int .i64 0]) ∧ SlR w' w'.heap.size A' ([[2], [0, 1]] : List (List Int)) ∧ Below w2.heap.size w2 w' from
    (siphons_any 3 (some ⟨gT, 0, none⟩) 3 exT w2 (by omega) SN.out exOK HE2.out).mono (fun e w' ⟨ws, A', c', hws, he, hs, hb⟩ => by
      have e1 : minF (edgesN (((3 : Nat) : Int), exT) false) ws = [4, 3] := exS hws
      rw [e1] at he hs
      rw [exL] at hs
      exact ⟨A', c', he, hs, hb⟩))
  have HFI := hid (fun (W : World) (hW : Below w2.heap.size w2 W) (gb : Nat) (hb : Blk W gb 3 #[.int .i64 0, .int .i64 1, .int .i64 1]) => show Calls Tryd.prog 15 #[.agg #[.int .i64 3, .slice (some ⟨gT, 0, none⟩) 3 3], .slice (some ⟨gb, 0, none⟩) 3 3, .int .i64 2] W fun e w' => ∃ A c, e = .returned (.tuple #[.slice A 3 c, .int .i64 0]) ∧ SlR w' w'.heap.size A ([1, 0, 0] : List Int) ∧ Below W.heap.size W w' from
    (fire_any 3 (some ⟨gT, 0, none⟩) 3 exT (some ⟨gb, 0, none⟩) 3 [0, 1, 1] 2 W (by decide) ((SN.out.below hW).more hW.size) (slr_ints (l := [0, 1, 1]) hb (by intro y hy; simp at hy; omega)) exOK (by decide)).mono (fun e w' ⟨A, c, he, hs, hb⟩ => by
      rw [exF] at he hs
      exact ⟨A, c, he, hs, hb⟩))
  have HSA := hid (fun (W : World) (A : Option Addr) (c gb : Nat) (hA : SlR W W.heap.size A ([2] : List Int)) (hb : Blk W gb 3 #[.int .i64 2]) => show Calls Tryd.prog 19 #[.slice A 1 c, .slice (some ⟨gb, 0, none⟩) 1 1] W fun e w' => e = .returned (.bool true) ∧ Below W.heap.size W w' from
    same_any A _ c 1 [2] [2] W (by decide) (by decide) hA (slr_ints (l := [2]) hb (by intro y hy; simp at hy; omega)))
  have HSB := hid (fun (W : World) (A : Option Addr) (c gb : Nat) (hA : SlR W W.heap.size A ([0, 1] : List Int)) (hb : Blk W gb 3 #[.int .i64 0, .int .i64 1]) => show Calls Tryd.prog 19 #[.slice A 2 c, .slice (some ⟨gb, 0, none⟩) 2 2] W fun e w' => e = .returned (.bool true) ∧ Below W.heap.size W w' from
    same_any A _ c 2 [0, 1] [0, 1] W (by decide) (by decide) hA (slr_ints (l := [0, 1]) hb (by intro y hy; simp at hy; omega)))
  have HSC := hid (fun (W : World) (A : Option Addr) (c gb : Nat) (hA : SlR W W.heap.size A ([1, 0, 0] : List Int)) (hb : Blk W gb 3 #[.int .i64 1, .int .i64 0, .int .i64 0]) => show Calls Tryd.prog 19 #[.slice A 3 c, .slice (some ⟨gb, 0, none⟩) 3 3] W fun e w' => e = .returned (.bool true) ∧ Below W.heap.size W w' from
    same_any A _ c 3 [1, 0, 0] [1, 0, 0] W (by decide) (by decide) hA (slr_ints (l := [1, 0, 0]) hb (by intro y hy; simp at hy; omega)))
  have HT1 := hid (fun (W : World) (hW : Below w2.heap.size w2 W) (gb : Nat) (hb : Blk W gb 3 #[.int .i64 0, .int .i64 1]) => show Calls Tryd.prog 16 #[.agg #[.int .i64 3, .slice (some ⟨gT, 0, none⟩) 3 3], .slice (some ⟨gb, 0, none⟩) 2 2] W fun e w' => e = .returned (.bool true) ∧ Below W.heap.size W w' from by
    have h := trap_any 3 (some ⟨gT, 0, none⟩) 3 exT (some ⟨gb, 0, none⟩) 2 [0, 1] W (by decide) ((SN.out.below hW).more hW.size) (by decide) (slr_ints (l := [0, 1]) hb (by intro y hy; simp at hy; omega)) exOK
    rw [exI1] at h
    exact h)
  have HT2 := hid (fun (W : World) (hW : Below w2.heap.size w2 W) (gb : Nat) (hb : Blk W gb 3 #[.int .i64 2]) => show Calls Tryd.prog 16 #[.agg #[.int .i64 3, .slice (some ⟨gT, 0, none⟩) 3 3], .slice (some ⟨gb, 0, none⟩) 1 1] W fun e w' => e = .returned (.bool false) ∧ Below W.heap.size W w' from by
    have h := trap_any 3 (some ⟨gT, 0, none⟩) 3 exT (some ⟨gb, 0, none⟩) 1 [2] W (by decide) ((SN.out.below hW).more hW.size) (by decide) (slr_ints (l := [2]) hb (by intro y hy; simp at hy; omega)) exOK
    rw [exI2] at h
    exact h)
  have x0 := X2.out.cell 0; have x1 := X2.out.cell 1; have xz := X2.out.lt
  simp at x0 x1
  clear HE2 SN
  go_upto_region 3 with (go_at_call 11; refine HSI.out.mono ?_; rintro e w3 ⟨Al, cl, rfl, hsl, hB3⟩)
  obtain ⟨bl, ol, A0, c0, rfl, hbl, hc0, _, _, hs0⟩ := hsl.list (k := 0) (by decide)
  obtain ⟨A1, c1, hc1, _, _, hs1⟩ := hsl.list_at (k := 1) (by decide)
  have HS0 := hid hs0
  have HS1 := hid hs1
  have X3 := hid (X2.out.below hB3 xz)
  have B3 := hid hB3
  clear hB3 hs0 hs1 hsl HSI x0 x1 xz X2
  simp only [List.length_cons, List.length_nil, Nat.add_zero, Nat.zero_add, Nat.reduceAdd] at hc0 hc1
  have x0 := X3.out.cell 0; have x1 := X3.out.cell 1; have xz := X3.out.lt
  simp at x0 x1
  have HC0 := hid hc0
  have HC1 := hid hc1
  clear hc0 hc1
  go_wp2_with fail
  refine (HFI.out _ (B3.out.alloc B3.out.size _) _ (Blk.new _ _ _)).mono ?_
  rintro e w4 ⟨Am, cm, rfl, hsm, hB4⟩
  have HB34 := hid (show Below w3.heap.size w3 w4 from ((Below.refl _ _).alloc (Nat.le_refl _) _).trans (hB4.mono (by simp)))
  have HSM := hid hsm
  clear hsm hB4 HFI x0 x1
  have x0 := (bcell HB34.out _ 0 xz).trans (show w3.cell? ⟨gN, 0, none⟩ = some (.int .i64 3) by rw [X3.out.cell]; rfl)
  have x1 := (bcell HB34.out _ 1 xz).trans (show w3.cell? ⟨gN, 1, none⟩ = some (.slice (some ⟨gT, 0, none⟩) 3 3) by rw [X3.out.cell]; rfl)
  have HB24 := hid (B3.out.trans (HB34.out.mono B3.out.size))
  have hQ0 := (bcell HB34.out _ ol hbl).trans HC0.out
  have hQ1 := (bcell HB34.out _ (ol + 1) hbl).trans HC1.out
  have hbl4 : bl < w4.heap.size := by have := HB34.out.size; omega
  have xz4 : gN < w4.heap.size := by have := HB34.out.size; omega
  have HQ := hid (fun (W : World) (hW : Below w4.heap.size w4 W) => show W.cell? ⟨gN, 0, none⟩ = some (.int .i64 3) ∧ W.cell? ⟨gN, 1, none⟩ = some (.slice (some ⟨gT, 0, none⟩) 3 3) ∧ W.cell? ⟨bl, ol, none⟩ = some (.slice A0 1 c0) ∧ W.cell? ⟨bl, ol + 1, none⟩ = some (.slice A1 2 c1) ∧ gN < W.heap.size ∧ bl < W.heap.size from
    ⟨(bcell hW _ _ xz4).trans x0, (bcell hW _ _ xz4).trans x1, (bcell hW _ _ hbl4).trans hQ0, (bcell hW _ _ hbl4).trans hQ1, Nat.lt_of_lt_of_le xz4 hW.size, Nat.lt_of_lt_of_le hbl4 hW.size⟩)
  have HS04 := hid (fun (W : World) (hW : Below w4.heap.size w4 W) => show SlR W W.heap.size A0 ([2] : List Int) from ((HS0.out.below (HB34.out.trans (hW.mono HB34.out.size))).more (HB34.out.trans (hW.mono HB34.out.size)).size))
  have HS14 := hid (fun (W : World) (hW : Below w4.heap.size w4 W) => show SlR W W.heap.size A1 ([0, 1] : List Int) from ((HS1.out.below (HB34.out.trans (hW.mono HB34.out.size))).more (HB34.out.trans (hW.mono HB34.out.size)).size))
  clear x0 x1 xz hbl hQ0 hQ1 HC0 HC1 HS0 HS1 X3 B3 HB34 hbl4 xz4
  obtain ⟨x0, x1, hc0, hc1, xz, hz⟩ := HQ.out w4 (Below.refl _ _)
  go_wp2_with fail
  refine (HSA.out _ A0 c0 _ (HS04.out _ ((Below.refl w4.heap.size w4).alloc (Below.refl w4.heap.size w4).size _)) (Blk.new _ _ _)).mono ?_
  rintro e w5 ⟨rfl, hB⟩
  have HB5 := hid (show Below w4.heap.size w4 w5 from ((Below.refl w4.heap.size w4).alloc (Below.refl w4.heap.size w4).size _).trans (hB.mono ((Below.refl w4.heap.size w4).alloc (Below.refl w4.heap.size w4).size _).size))
  clear hB x0 x1 hc0 hc1 xz hz
  obtain ⟨x0, x1, hc0, hc1, xz, hz⟩ := HQ.out w5 HB5.out
  go_wp2_with fail
  refine (HSB.out _ A1 c1 _ (HS14.out _ (HB5.out.alloc HB5.out.size _)) (Blk.new _ _ _)).mono ?_
  rintro e w6 ⟨rfl, hB⟩
  have HB6 := hid (show Below w4.heap.size w4 w6 from (HB5.out.alloc HB5.out.size _).trans (hB.mono (HB5.out.alloc HB5.out.size _).size))
  clear hB x0 x1 hc0 hc1 xz hz
  obtain ⟨x0, x1, hc0, hc1, xz, hz⟩ := HQ.out w6 HB6.out
  go_wp2_with fail
  refine (HT1.out _ (HB24.out.trans ((HB6.out.alloc HB6.out.size _).mono HB24.out.size)) _ (Blk.new _ _ _)).mono ?_
  rintro e w7 ⟨rfl, hB⟩
  have HB7 := hid (show Below w4.heap.size w4 w7 from (HB6.out.alloc HB6.out.size _).trans (hB.mono (HB6.out.alloc HB6.out.size _).size))
  clear hB x0 x1 hc0 hc1 xz hz
  obtain ⟨x0, x1, hc0, hc1, xz, hz⟩ := HQ.out w7 HB7.out
  go_wp2_with fail
  refine (HT2.out _ (HB24.out.trans ((HB7.out.alloc HB7.out.size _).mono HB24.out.size)) _ (Blk.new _ _ _)).mono ?_
  rintro e w8 ⟨rfl, hB⟩
  have HB8 := hid (show Below w4.heap.size w4 w8 from (HB7.out.alloc HB7.out.size _).trans (hB.mono (HB7.out.alloc HB7.out.size _).size))
  clear hB x0 x1 hc0 hc1 xz hz
  obtain ⟨x0, x1, hc0, hc1, xz, hz⟩ := HQ.out w8 HB8.out
  go_wp2_with fail
  refine (HSC.out _ Am cm _ ((HSM.out.below (HB8.out.alloc HB8.out.size _)).more (HB8.out.alloc HB8.out.size _).size) (Blk.new _ _ _)).mono ?_
  rintro e w9 ⟨rfl, hB⟩
  have HB9 := hid (show Below w4.heap.size w4 w9 from (HB8.out.alloc HB8.out.size _).trans (hB.mono (HB8.out.alloc HB8.out.size _).size))
  clear hB x0 x1 hc0 hc1 xz hz
  obtain ⟨x0, x1, hc0, hc1, xz, hz⟩ := HQ.out w9 HB9.out
  go_wp2_with fail
  go_ret
  exact ⟨rfl, B2.out.trans ((HB24.out.trans (HB9.out.mono HB24.out.size)).mono B2.out.size)⟩
end Go.Proofs.YtbbogflibekgfaaDoor
