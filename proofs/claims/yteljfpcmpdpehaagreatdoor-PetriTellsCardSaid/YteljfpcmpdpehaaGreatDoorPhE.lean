
/- Petri: Invariant. -/
import Derived.Test.YteljfpcmpdpehaaGreatDoorPhD
import Derived.Test.YteljfpcmpdpehaaGreatDoorFlat
import Derived.Test.YteljfpcmpdpehaaGreatDoorPhC
import Derived.Test.YteljfpcmpdpehaaGreatDoorPhB
import Derived.Test.YteljfpcmpdpehaaGreatDoorRegS
import Derived.Laws.EntriesVeiled
set_option linter.unusedSimpArgs false
set_option linter.unusedVariables false
namespace Go.Proofs.YteljfpcmpdpehaaGreatDoor
open Go.RowKit Go.IntWalk Go.Shelf

def exT : List Tr := [([0], [1]), ([1], [0]), ([1, 2], [0])]
theorem exW : WordsR 3 [1, 2, 4, 3, 5, 6, 7] := ⟨by decide, by decide +kernel⟩
theorem exS {ws : List Nat} (h : WordsR 3 ws) : minF (edgesN (3, exT) false) ws = [4, 3] := by
  rw [h.uniq (by omega) exW]
  decide +kernel
theorem exL : ([4, 3] : List Nat).map listN = [[2], [0, 1]] := by decide +kernel
theorem exOK : netOK (3, exT) = true := by decide
theorem exF : fireN 3 exT [0, 1, 1] 2 = ([1, 0, 0], 0) := by decide
theorem exI1 : isN 3 exT true [0, 1] = true := by decide +kernel
theorem exI2 : isN 3 exT true [2] = false := by decide +kernel
theorem i64s (x : Int) (h : -1000000 ≤ x ∧ x ≤ 1000000) : I64 x := ⟨by omega, by omega⟩
theorem slr_ints {w : World} {g : Nat} {l : List Int} (hb : Blk w g 3 (l.map (Value.int .i64)).toArray) (hi : ∀ x ∈ l, -1000000 ≤ x ∧ x ≤ 1000000) : SlR w w.heap.size (some ⟨g, 0, none⟩) l := hb.ints hb.lt (fun x hx => i64s x (hi x hx))
theorem slr_T {w : World} {g g0 g1 g2 g3 g4 g5 : Nat} (b0 : Blk w g0 3 #[.int .i64 0]) (b1 : Blk w g1 3 #[.int .i64 1]) (b2 : Blk w g2 3 #[.int .i64 1]) (b3 : Blk w g3 3 #[.int .i64 0]) (b4 : Blk w g4 3 #[.int .i64 1, .int .i64 2]) (b5 : Blk w g5 3 #[.int .i64 0])
    (b : Blk w g 47 #[.slice (some ⟨g0, 0, none⟩) 1 1, .slice (some ⟨g1, 0, none⟩) 1 1, .slice (some ⟨g2, 0, none⟩) 1 1, .slice (some ⟨g3, 0, none⟩) 1 1, .slice (some ⟨g4, 0, none⟩) 2 2, .slice (some ⟨g5, 0, none⟩) 1 1]) : SlR w w.heap.size (some ⟨g, 0, none⟩) exT := by
  have one : ∀ {g : Nat} {x : Int}, Blk w g 3 #[.int .i64 x] → -1000000 ≤ x ∧ x ≤ 1000000 → Rep.rep w w.heap.size [.slice (some ⟨g, 0, none⟩) 1 1] ([x] : List Int) := fun {g x} hb hx =>
    ⟨some ⟨g, 0, none⟩, 1, rfl, Nat.le_refl _, by unfold maxLen; simp, slr_ints (l := [x]) hb (by intro y hy; simp at hy; subst hy; exact hx)⟩
  have two : Rep.rep w w.heap.size [.slice (some ⟨g4, 0, none⟩) 2 2] ([1, 2] : List Int) :=
    ⟨some ⟨g4, 0, none⟩, 2, rfl, Nat.le_refl _, by unfold maxLen; simp, slr_ints (l := [1, 2]) b4 (by intro y hy; simp at hy; omega)⟩
  refine slr_flat [[.slice (some ⟨g0, 0, none⟩) 1 1, .slice (some ⟨g1, 0, none⟩) 1 1], [.slice (some ⟨g2, 0, none⟩) 1 1, .slice (some ⟨g3, 0, none⟩) 1 1], [.slice (some ⟨g4, 0, none⟩) 2 2, .slice (some ⟨g5, 0, none⟩) 1 1]] b rfl (by intro c hc; simp at hc; rcases hc with rfl | rfl | rfl <;> rfl) fun k hk => ?_
  have hk3 : k < 3 := hk
  match k, hk3 with
  | 0, _ => exact ⟨_, _, rfl, rfl, rfl, one b0 (by omega), one b1 (by omega)⟩
  | 1, _ => exact ⟨_, _, rfl, rfl, rfl, one b2 (by omega), one b3 (by omega)⟩
  | 2, _ => exact ⟨_, _, rfl, rfl, rfl, two, one b5 (by omega)⟩
set_option maxRecDepth 100000 in
set_option maxHeartbeats 4000000 in
theorem psmall_any (w : World) (hE : PEnv w) : Calls Tryz.prog 4 #[] w fun e w' => e = .returned (.bool true) ∧ Below w.heap.size w w' := by
  obtain ⟨w2, hw2⟩ : ∃ w2, w2 = ((((((((w.alloc (Obj.cells #[Value.int IntKind.i64 0] 3)).alloc (Obj.cells #[Value.int IntKind.i64 1] 3)).alloc (Obj.cells #[Value.int IntKind.i64 1] 3)).alloc (Obj.cells #[Value.int IntKind.i64 0] 3)).alloc (Obj.cells #[Value.int IntKind.i64 1, Value.int IntKind.i64 2] 3)).alloc (Obj.cells #[Value.int IntKind.i64 0] 3)).alloc (Obj.cells #[Value.slice (some { block := w.heap.size, off := 0 }) 1 1, Value.slice (some { block := w.heap.size + 1, off := 0 }) 1 1, Value.slice (some { block := w.heap.size + 1 + 1, off := 0 }) 1 1, Value.slice (some { block := w.heap.size + 1 + 1 + 1, off := 0 }) 1 1, Value.slice (some { block := w.heap.size + 1 + 1 + 1 + 1, off := 0 }) 2 2, Value.slice (some { block := w.heap.size + 1 + 1 + 1 + 1 + 1, off := 0 }) 1 1] 47)).alloc (Obj.cells #[Value.int IntKind.i64 3, Value.slice (some { block := w.heap.size + 1 + 1 + 1 + 1 + 1 + 1, off := 0 }) 3 3] 24)) := ⟨_, rfl⟩
  have B2 := hid (show Below w.heap.size w w2 by rw [hw2]; (repeat (first | exact Below.refl _ _ | assumption | refine below_drewN ?_ _ | refine Below.drew ?_ | refine Below.alloc ?_ (by (try simp); (try omega)) _ | refine Below.setCell ?_ (by (try simp); (try omega)) _)))
  have X2 := hid (show Blk w2 (w.heap.size + 1 + 1 + 1 + 1 + 1 + 1 + 1) 24 #[.int .i64 3, .slice (some ⟨w.heap.size + 1 + 1 + 1 + 1 + 1 + 1, 0, none⟩) 3 3] by rw [hw2]; exact Blk.new_at (by simp))
  have SN := hid (show SlR w2 w2.heap.size (some ⟨w.heap.size + 1 + 1 + 1 + 1 + 1 + 1, 0, none⟩) exT from slr_T (g0 := w.heap.size) (g1 := w.heap.size + 1) (g2 := w.heap.size + 1 + 1) (g3 := w.heap.size + 1 + 1 + 1) (g4 := w.heap.size + 1 + 1 + 1 + 1) (g5 := w.heap.size + 1 + 1 + 1 + 1 + 1)
    (by rw [hw2]; exact (((((((Blk.new_at (by simp)).alloc _).alloc _).alloc _).alloc _).alloc _).alloc _).alloc _)
    (by rw [hw2]; exact ((((((Blk.new_at (by simp)).alloc _).alloc _).alloc _).alloc _).alloc _).alloc _)
    (by rw [hw2]; exact (((((Blk.new_at (by simp)).alloc _).alloc _).alloc _).alloc _).alloc _)
    (by rw [hw2]; exact ((((Blk.new_at (by simp)).alloc _).alloc _).alloc _).alloc _)
    (by rw [hw2]; exact (((Blk.new_at (by simp)).alloc _).alloc _).alloc _)
    (by rw [hw2]; exact ((Blk.new_at (by simp)).alloc _).alloc _)
    (by rw [hw2]; exact (Blk.new_at (by simp)).alloc _))
  have HE2 := hid (hE.below B2.out hE.pos)
  go_enter Tryz.func4, Tryz.ntmps4
  go_upto_region 2 with fail
  rw [← hw2]
  clear hw2 hE
  generalize w.heap.size + 1 + 1 + 1 + 1 + 1 + 1 + 1 = gN at *
  generalize w.heap.size + 1 + 1 + 1 + 1 + 1 + 1 = gT at *
  have HSI := hid (show Calls Tryz.prog 21 #[.agg #[.int .i64 3, .slice (some ⟨gT, 0, none⟩) 3 3]] w2 fun e w' => ∃ A' c', e = .returned (.tuple #[.slice A' 2 c', .int .i64 0]) ∧ SlR w' w'.heap.size A' ([[2], [0, 1]] : List (List Int)) ∧ Below w2.heap.size w2 w' from
    (siphons_any 3 (some ⟨gT, 0, none⟩) 3 exT w2 (by omega) SN.out exOK HE2.out).mono (fun e w' ⟨ws, A', c', hws, he, hs, hb⟩ => by
      have e1 : minF (edgesN (((3 : Nat) : Int), exT) false) ws = [4, 3] := exS hws
      rw [e1] at he hs
      rw [exL] at hs
      exact ⟨A', c', he, hs, hb⟩))
  have HFI := hid (fun (W : World) (hW : Below w2.heap.size w2 W) (gb : Nat) (hb : Blk W gb 3 #[.int .i64 0, .int .i64 1, .int .i64 1]) => show Calls Tryz.prog 26 #[.agg #[.int .i64 3, .slice (some ⟨gT, 0, none⟩) 3 3], .slice (some ⟨gb, 0, none⟩) 3 3, .int .i64 2] W fun e w' => ∃ A c, e = .returned (.tuple #[.slice A 3 c, .int .i64 0]) ∧ SlR w' w'.heap.size A ([1, 0, 0] : List Int) ∧ Below W.heap.size W w' from
    (fire_any 3 (some ⟨gT, 0, none⟩) 3 exT (some ⟨gb, 0, none⟩) 3 [0, 1, 1] 2 W (by decide) ((SN.out.below hW).more hW.size) (slr_ints (l := [0, 1, 1]) hb (by intro y hy; simp at hy; omega)) exOK (by decide)).mono (fun e w' ⟨A, c, he, hs, hb⟩ => by
      rw [exF] at he hs
      exact ⟨A, c, he, hs, hb⟩))
  have HSA := hid (fun (W : World) (A : Option Addr) (c gb : Nat) (hA : SlR W W.heap.size A ([2] : List Int)) (hb : Blk W gb 3 #[.int .i64 2]) => show Calls Tryz.prog 16 #[.slice A 1 c, .slice (some ⟨gb, 0, none⟩) 1 1] W fun e w' => e = .returned (.bool true) ∧ Below W.heap.size W w' from
    same_any A _ c 1 [2] [2] W (by decide) (by decide) hA (slr_ints (l := [2]) hb (by intro y hy; simp at hy; omega)))
  have HSB := hid (fun (W : World) (A : Option Addr) (c gb : Nat) (hA : SlR W W.heap.size A ([0, 1] : List Int)) (hb : Blk W gb 3 #[.int .i64 0, .int .i64 1]) => show Calls Tryz.prog 16 #[.slice A 2 c, .slice (some ⟨gb, 0, none⟩) 2 2] W fun e w' => e = .returned (.bool true) ∧ Below W.heap.size W w' from
    same_any A _ c 2 [0, 1] [0, 1] W (by decide) (by decide) hA (slr_ints (l := [0, 1]) hb (by intro y hy; simp at hy; omega)))
  have HSC := hid (fun (W : World) (A : Option Addr) (c gb : Nat) (hA : SlR W W.heap.size A ([1, 0, 0] : List Int)) (hb : Blk W gb 3 #[.int .i64 1, .int .i64 0, .int .i64 0]) => show Calls Tryz.prog 16 #[.slice A 3 c, .slice (some ⟨gb, 0, none⟩) 3 3] W fun e w' => e = .returned (.bool true) ∧ Below W.heap.size W w' from
    same_any A _ c 3 [1, 0, 0] [1, 0, 0] W (by decide) (by decide) hA (slr_ints (l := [1, 0, 0]) hb (by intro y hy; simp at hy; omega)))
  have HT1 := hid (fun (W : World) (hW : Below w2.heap.size w2 W) (gb : Nat) (hb : Blk W gb 3 #[.int .i64 0, .int .i64 1]) => show Calls Tryz.prog 14 #[.agg #[.int .i64 3, .slice (some ⟨gT, 0, none⟩) 3 3], .slice (some ⟨gb, 0, none⟩) 2 2] W fun e w' => e = .returned (.bool true) ∧ Below W.heap.size W w' from by
    have h := trap_any 3 (some ⟨gT, 0, none⟩) 3 exT (some ⟨gb, 0, none⟩) 2 [0, 1] W (by decide) ((SN.out.below hW).more hW.size) (by decide) (slr_ints (l := [0, 1]) hb (by intro y hy; simp at hy; omega)) exOK
    rw [exI1] at h
    exact h)
  have HT2 := hid (fun (W : World) (hW : Below w2.heap.size w2 W) (gb : Nat) (hb : Blk W gb 3 #[.int .i64 2]) => show Calls Tryz.prog 14 #[.agg #[.int .i64 3, .slice (some ⟨gT, 0, none⟩) 3 3], .slice (some ⟨gb, 0, none⟩) 1 1] W fun e w' => e = .returned (.bool false) ∧ Below W.heap.size W w' from by
    have h := trap_any 3 (some ⟨gT, 0, none⟩) 3 exT (some ⟨gb, 0, none⟩) 1 [2] W (by decide) ((SN.out.below hW).more hW.size) (by decide) (slr_ints (l := [2]) hb (by intro y hy; simp at hy; omega)) exOK
    rw [exI2] at h
    exact h)
  have x0 := X2.out.cell 0; have x1 := X2.out.cell 1; have xz := X2.out.lt
  simp at x0 x1
  clear HE2 SN
  go_upto_region 3 with (go_at_call 21; refine HSI.out.mono ?_; rintro e w3 ⟨Al, cl, rfl, hsl, hB3⟩)
  obtain ⟨bl, ol, A0, c0, rfl, hbl, hc0, _, _, hs0⟩ := hsl.list (k := 0) (by decide)
  obtain ⟨A1, c1, hc1, _, _, hs1⟩ := hsl.list_at (k := 1) (by decide)
  have HS0 := hid hs0
  have HS1 := hid hs1
  have X3 := hid (X2.out.below hB3 xz)
  have B3 := hid hB3
  clear hB3 hs0 hs1 hsl HSI x0 x1 xz X2
  simp only [List.length_cons, List.length_nil, Nat.add_zero, Nat.zero_add, Nat.reduceAdd] at hc0 hc1
  have x0 := X3.out.cell 0; have x1 := X3.out.cell 1; have xz := X3.out.lt
  simp at x0 x1
  have HC0 := hid hc0
  have HC1 := hid hc1
  clear hc0 hc1
  go_wp2_with fail
  refine (HFI.out _ (B3.out.alloc B3.out.size _) _ (Blk.new _ _ _)).mono ?_
  rintro e w4 ⟨Am, cm, rfl, hsm, hB4⟩
  have HB34 := hid (show Below w3.heap.size w3 w4 from ((Below.refl _ _).alloc (Nat.le_refl _) _).trans (hB4.mono (by simp)))
  have HSM := hid hsm
  clear hsm hB4 HFI x0 x1
  have x0 := (bcell HB34.out _ 0 xz).trans (show w3.cell? ⟨gN, 0, none⟩ = some (.int .i64 3) by rw [X3.out.cell]; rfl)
  have x1 := (bcell HB34.out _ 1 xz).trans (show w3.cell? ⟨gN, 1, none⟩ = some (.slice (some ⟨gT, 0, none⟩) 3 3) by rw [X3.out.cell]; rfl)
  have HB24 := hid (B3.out.trans (HB34.out.mono B3.out.size))
  have hQ0 := (bcell HB34.out _ ol hbl).trans HC0.out
  have hQ1 := (bcell HB34.out _ (ol + 1) hbl).trans HC1.out
  have hbl4 : bl < w4.heap.size := by have := HB34.out.size; omega
  have xz4 : gN < w4.heap.size := by have := HB34.out.size; omega
  have HQ := hid (fun (W : World) (hW : Below w4.heap.size w4 W) => show W.cell? ⟨gN, 0, none⟩ = some (.int .i64 3) ∧ W.cell? ⟨gN, 1, none⟩ = some (.slice (some ⟨gT, 0, none⟩) 3 3) ∧ W.cell? ⟨bl, ol, none⟩ = some (.slice A0 1 c0) ∧ W.cell? ⟨bl, ol + 1, none⟩ = some (.slice A1 2 c1) ∧ gN < W.heap.size ∧ bl < W.heap.size from
    ⟨(bcell hW _ _ xz4).trans x0, (bcell hW _ _ xz4).trans x1, (bcell hW _ _ hbl4).trans hQ0, (bcell hW _ _ hbl4).trans hQ1, Nat.lt_of_lt_of_le xz4 hW.size, Nat.lt_of_lt_of_le hbl4 hW.size⟩)
  have HS04 := hid (fun (W : World) (hW : Below w4.heap.size w4 W) => show SlR W W.heap.size A0 ([2] : List Int) from ((HS0.out.below (HB34.out.trans (hW.mono HB34.out.size))).more (HB34.out.trans (hW.mono HB34.out.size)).size))
  have HS14 := hid (fun (W : World) (hW : Below w4.heap.size w4 W) => show SlR W W.heap.size A1 ([0, 1] : List Int) from ((HS1.out.below (HB34.out.trans (hW.mono HB34.out.size))).more (HB34.out.trans (hW.mono HB34.out.size)).size))
  clear x0 x1 xz hbl hQ0 hQ1 HC0 HC1 HS0 HS1 X3 B3 HB34 hbl4 xz4
  obtain ⟨x0, x1, hc0, hc1, xz, hz⟩ := HQ.out w4 (Below.refl _ _)
  go_wp2_with fail
  refine (HSA.out _ A0 c0 _ (HS04.out _ ((Below.refl w4.heap.size w4).alloc (Below.refl w4.heap.size w4).size _)) (Blk.new _ _ _)).mono ?_
  rintro e w5 ⟨rfl, hB⟩
  have HB5 := hid (show Below w4.heap.size w4 w5 from ((Below.refl w4.heap.size w4).alloc (Below.refl w4.heap.size w4).size _).trans (hB.mono ((Below.refl w4.heap.size w4).alloc (Below.refl w4.heap.size w4).size _).size))
  clear hB x0 x1 hc0 hc1 xz hz
  obtain ⟨x0, x1, hc0, hc1, xz, hz⟩ := HQ.out w5 HB5.out
  go_wp2_with fail
  refine (HSB.out _ A1 c1 _ (HS14.out _ (HB5.out.alloc HB5.out.size _)) (Blk.new _ _ _)).mono ?_
  rintro e w6 ⟨rfl, hB⟩
  have HB6 := hid (show Below w4.heap.size w4 w6 from (HB5.out.alloc HB5.out.size _).trans (hB.mono (HB5.out.alloc HB5.out.size _).size))
  clear hB x0 x1 hc0 hc1 xz hz
  obtain ⟨x0, x1, hc0, hc1, xz, hz⟩ := HQ.out w6 HB6.out
  go_wp2_with fail
  refine (HT1.out _ (HB24.out.trans ((HB6.out.alloc HB6.out.size _).mono HB24.out.size)) _ (Blk.new _ _ _)).mono ?_
  rintro e w7 ⟨rfl, hB⟩
  have HB7 := hid (show Below w4.heap.size w4 w7 from (HB6.out.alloc HB6.out.size _).trans (hB.mono (HB6.out.alloc HB6.out.size _).size))
  clear hB x0 x1 hc0 hc1 xz hz
  obtain ⟨x0, x1, hc0, hc1, xz, hz⟩ := HQ.out w7 HB7.out
  go_wp2_with fail
  refine (HT2.out _ (HB24.out.trans ((HB7.out.alloc HB7.out.size _).mono HB24.out.size)) _ (Blk.new _ _ _)).mono ?_
  rintro e w8 ⟨rfl, hB⟩
  have HB8 := hid (show Below w4.heap.size w4 w8 from (HB7.out.alloc HB7.out.size _).trans (hB.mono (HB7.out.alloc HB7.out.size _).size))
  clear hB x0 x1 hc0 hc1 xz hz
  obtain ⟨x0, x1, hc0, hc1, xz, hz⟩ := HQ.out w8 HB8.out
  go_wp2_with fail
  refine (HSC.out _ Am cm _ ((HSM.out.below (HB8.out.alloc HB8.out.size _)).more (HB8.out.alloc HB8.out.size _).size) (Blk.new _ _ _)).mono ?_
  rintro e w9 ⟨rfl, hB⟩
  have HB9 := hid (show Below w4.heap.size w4 w9 from (HB8.out.alloc HB8.out.size _).trans (hB.mono (HB8.out.alloc HB8.out.size _).size))
  clear hB x0 x1 hc0 hc1 xz hz
  obtain ⟨x0, x1, hc0, hc1, xz, hz⟩ := HQ.out w9 HB9.out
  go_wp2_with fail
  go_ret
  exact ⟨rfl, B2.out.trans ((HB24.out.trans (HB9.out.mono HB24.out.size)).mono B2.out.size)⟩
end Go.Proofs.YteljfpcmpdpehaaGreatDoor
namespace Go.Proofs.YteljfpcmpdpehaaGreatDoor
open Go.RowKit Go.IntWalk Go.Shelf

def fitsN (n : Int) (T : List Tr) (m : List Int) (p q : Int) : Bool := fewN n T p q && netOK (n, T) && decide (m.length ≤ 64) && markOK (n, T) m
end Go.Proofs.YteljfpcmpdpehaaGreatDoor
namespace Go.Proofs.YteljfpcmpdpehaaGreatDoor
open Go.RowKit Go.IntWalk Go.Shelf

/-- Is a bit of a number set? -/
def bitI (b : Int) (i : Nat) : Bool := decide (b / 2 ^ i % 2 = 1)
def pickN (b : Int) (k : Nat) : List Int := ((List.range k).filter (fun i => bitI b i)).map (fun (i : Nat) => (i : Int))
theorem pickN_succ (b : Int) (k : Nat) : pickN b (k + 1) = if bitI b k = true then pickN b k ++ [(k : Int)] else pickN b k := by
  unfold pickN
  rw [List.range_succ, List.filter_append, List.map_append]
  split
  · rename_i h; simp [h]
  · rename_i h; simp [h]
theorem pickN_len (b : Int) (k : Nat) : (pickN b k).length ≤ k := by
  unfold pickN
  rw [List.length_map]
  exact Nat.le_trans (List.length_filter_le _ _) (by simp)
theorem pickN_mem {b : Int} {k : Nat} {x : Int} : x ∈ pickN b k ↔ 0 ≤ x ∧ x < k ∧ bitI b x.toNat = true := by
  unfold pickN
  rw [List.mem_map]
  constructor
  · rintro ⟨i, hi, rfl⟩
    rw [List.mem_filter, List.mem_range] at hi
    exact ⟨by omega, by omega, by simpa using hi.2⟩
  · rintro ⟨h0, h1, h2⟩
    exact ⟨x.toNat, List.mem_filter.2 ⟨List.mem_range.2 (by omega), h2⟩, by omega⟩
theorem pickN_pw (b : Int) (k : Nat) : (pickN b k).Pairwise (· < ·) := by
  unfold pickN
  exact List.Pairwise.map (R := (· < ·)) _ (fun a b h => by omega) (List.Pairwise.filter _ List.pairwise_lt_range)
theorem pickN_set (b : Int) (k : Nat) : setB k (pickN b k) = true := setB_of (pickN_pw b k) (fun x hx => by have := pickN_mem.1 hx; omega)
theorem and_one (y : Int) : bits .and .i64 y 1 = y % 2 := by
  show IntKind.i64.wrap ((BitVec.ofInt 64 y &&& 1#64).toNat : Int) = y % 2
  rw [BitVec.toNat_and, show (1#64).toNat = 1 from rfl, Nat.and_one_is_mod, BitVec.toNat_ofInt, IntKind.wrap_i64]
  omega
def withinN (a b : List Int) : Bool := a.all (fun x => meetsN [x] b)
theorem within_mem {a b : List Int} : withinN a b = true ↔ ∀ x ∈ a, x ∈ b := by
  unfold withinN
  rw [List.all_eq_true]
  refine ⟨fun h x hx => ?_, fun h x hx => ?_⟩
  · have := h x hx
    simpa [meetsN] using this
  · have := h x hx
    simpa [meetsN] using this
theorem SlR.one {w : World} {B b off : Nat} {l : List Int} (h : SlR w B (some ⟨b, off, none⟩) l) {k : Nat} (hk : k < l.length) : SlR w B (some ⟨b, off + k, none⟩) [l[k]] := by
  intro j x hx
  obtain ⟨hj, rfl⟩ := List.getElem?_eq_some_iff.1 hx
  have hj0 : j = 0 := by simpa using hj
  subst hj0
  obtain ⟨b', off', es, hA, hb, hs, hc, hr⟩ := h k _ (List.getElem?_eq_getElem hk)
  injection hA with hA
  injection hA with e1 e2 _
  subst e1 e2
  refine ⟨b, off + k, es, rfl, hb, hs, fun i u hu => ?_, hr⟩
  have h1 : Rep.size Int = 1 := rfl
  have := hc i u hu
  rw [h1] at this ⊢
  rwa [show off + k + 0 * 1 + i = off + k * 1 + i by omega]
end Go.Proofs.YteljfpcmpdpehaaGreatDoor
namespace Go.Proofs.YteljfpcmpdpehaaGreatDoor
open Go.RowKit Go.IntWalk

/-! ### The bits of a number -/
theorem bitI_mod (a : Int) (i : Nat) (hi : i < 64) : bitI a i = (a % 18446744073709551616).toNat.testBit i := by
  unfold bitI
  rw [Nat.testBit_eq_decide_div_mod_eq]
  refine decide_eq_decide.2 ?_
  have h64 : (18446744073709551616 : Int) = 2 ^ i * (2 * 2 ^ (63 - i)) := by
    rw [show (2 : Int) * 2 ^ (63 - i) = 2 ^ (63 - i + 1) by rw [Int.pow_succ, Int.mul_comm], ← Int.pow_add, show i + (63 - i + 1) = 64 by omega]
    rfl
  have hp : (0 : Int) < 2 ^ i := Int.pow_pos (by omega)
  have e1 : a / 2 ^ i % 2 = (a % 18446744073709551616) / 2 ^ i % 2 := by
    have hd : a = (a % 18446744073709551616) + 2 ^ i * (2 * 2 ^ (63 - i) * (a / 18446744073709551616)) := by
      rw [← Int.mul_assoc, ← h64]
      omega
    have : a / 2 ^ i = (a % 18446744073709551616) / 2 ^ i + 2 * 2 ^ (63 - i) * (a / 18446744073709551616) := by
      have h2 := Int.add_mul_ediv_left (a % 18446744073709551616) (2 * 2 ^ (63 - i) * (a / 18446744073709551616)) (Int.ne_of_gt hp)
      rw [← hd] at h2
      exact h2
    rw [this, Int.mul_assoc, Int.add_mul_emod_self_left]
  rw [e1]
  obtain ⟨r, hr⟩ : ∃ r : Nat, a % 18446744073709551616 = r := ⟨(a % 18446744073709551616).toNat, by omega⟩
  rw [hr, Int.toNat_natCast]
  have e2 : ((r : Int) / 2 ^ i % 2) = ((r / 2 ^ i % 2 : Nat) : Int) := by simp
  rw [e2]
  omega
theorem bitI_or (a b : Int) (i : Nat) (hi : i < 64) : bitI (bits .or .i64 a b) i = (bitI a i || bitI b i) := by
  rw [bitI_mod _ i hi, bitI_mod a i hi, bitI_mod b i hi]
  have h : bits .or .i64 a b % 18446744073709551616 = (((BitVec.ofInt 64 a ||| BitVec.ofInt 64 b).toNat : Nat) : Int) := by
    show IntKind.i64.wrap ((BitVec.ofInt 64 a ||| BitVec.ofInt 64 b).toNat : Int) % 18446744073709551616 = _
    have := (BitVec.ofInt 64 a ||| BitVec.ofInt 64 b).isLt
    rw [IntKind.wrap_i64]
    omega
  rw [h, Int.toNat_natCast, BitVec.toNat_or, Nat.testBit_or, BitVec.toNat_ofInt, BitVec.toNat_ofInt]
  rfl
theorem pick_bit (b : Int) (N i : Nat) : (wordN (pickN b N)).testBit i = (decide (i < N) && bitI b i) := by
  rw [word_bit (fun p hp => (pickN_mem.1 hp).1)]
  rw [Bool.eq_iff_iff]
  simp only [decide_eq_true_eq, Bool.and_eq_true, pickN_mem, Int.toNat_natCast]
  constructor
  · rintro ⟨_, h1, h2⟩; exact ⟨by omega, h2⟩
  · rintro ⟨h1, h2⟩; exact ⟨by omega, by omega, h2⟩
/-! ### Lists and words -/
theorem sub_lt {x w k : Nat} (h : sub x w) (hw : w < 2 ^ k) : x < 2 ^ k := by
  refine Nat.lt_pow_two_of_testBit _ fun i hi => ?_
  cases hx : x.testBit i with
  | false => rfl
  | true =>
    have := h i hx
    rw [Nat.testBit_lt_two_pow (Nat.lt_of_lt_of_le hw (Nat.pow_le_pow_right (by omega) hi))] at this
    cases this
theorem list_set {v N : Nat} (h : v < 2 ^ N) : setB N (listN v) = true := setB_of (list_pw v) (fun x hx => by
  have h1 := list_mem.1 hx
  refine ⟨h1.1, ?_⟩
  rcases Nat.lt_or_ge x.toNat N with h2 | h2
  · omega
  · have := h1.2.2
    rw [Nat.testBit_lt_two_pow (Nat.lt_of_lt_of_le h (Nat.pow_le_pow_right (by omega) h2))] at this
    cases this)
theorem within_sub {x y : Nat} (h : sub x y) : withinN (listN x) (listN y) = true := within_mem.2 fun p hp => by
  have := list_mem.1 hp
  exact list_mem.2 ⟨this.1, this.2.1, h _ this.2.2⟩
theorem sub_or {x y z : Nat} (h : sub x z) (k : sub y z) : sub (x ||| y) z := fun i hi => by
  rw [Nat.testBit_or, Bool.or_eq_true] at hi
  exact hi.elim (h i) (k i)
theorem or_sub {x y : Nat} : sub x (x ||| y) := fun i hi => by rw [Nat.testBit_or, hi]; rfl
theorem closed_or {l : List Ed} {x y : Nat} (hx : x = 0 ∨ closedN l x = true) (hy : y = 0 ∨ closedN l y = true) (h0 : x ||| y ≠ 0) : closedN l (x ||| y) = true := by
  refine closed_of h0 fun e he => ?_
  unfold hit
  by_cases h2 : e.2 &&& (x ||| y) = 0
  · have key : ∀ z, (z = 0 ∨ closedN l z = true) → sub z (x ||| y) → e.1 &&& z = 0 := fun z hz hs => by
      rcases hz with rfl | hz
      · simp
      · have := (closed_parts hz).2 e he
        have h3 : e.2 &&& z = 0 := and_zero.2 fun i ⟨a, b⟩ => and_zero.1 h2 i ⟨a, hs i b⟩
        simpa [hit, h3] using this
    have k1 := key x hx or_sub
    have k2 := key y hy (by rw [Nat.or_comm]; exact or_sub)
    have : e.1 &&& (x ||| y) = 0 := by
      refine and_zero.2 fun i ⟨a, b⟩ => ?_
      rw [Nat.testBit_or, Bool.or_eq_true] at b
      rcases b with b | b
      · exact and_zero.1 k1 i ⟨a, b⟩
      · exact and_zero.1 k2 i ⟨a, b⟩
    simp [this]
  · simp [h2]
theorem LargeR.into {l : List Ed} {w w' r s : Nat} (h : LargeR l w r) (h' : LargeR l w' s) (hs : Go.Proofs.YteljfpcmpdpehaaGreatDoor.sub w w') : Go.Proofs.YteljfpcmpdpehaaGreatDoor.sub r s := by
  rcases h.cl with rfl | hc
  · intro i hi; rw [Nat.zero_testBit] at hi; cases hi
  · exact h'.max r hc (sub_trans h.sub hs)
/-! ### The law -/
def bothN (a b : List Int) (k : Nat) : List Int := ((List.range k).filter (fun i => meetsN [((i : Nat) : Int)] a || meetsN [((i : Nat) : Int)] b)).map (fun (i : Nat) => (i : Int))
theorem bothN_succ (a b : List Int) (k : Nat) : bothN a b (k + 1) = if (meetsN [(k : Int)] a || meetsN [(k : Int)] b) = true then bothN a b k ++ [(k : Int)] else bothN a b k := by
  unfold bothN
  rw [List.range_succ, List.filter_append, List.map_append]
  split
  · rename_i h; simp [h]
  · rename_i h; simp [h]
theorem bothN_len (a b : List Int) (k : Nat) : (bothN a b k).length ≤ k := by
  unfold bothN
  rw [List.length_map]
  exact Nat.le_trans (List.length_filter_le _ _) (by simp)
theorem meets_one {x : Int} {l : List Int} : meetsN [x] l = true ↔ x ∈ l := by simp [meetsN]
theorem bothN_mem {a b : List Int} {k : Nat} {x : Int} : x ∈ bothN a b k ↔ 0 ≤ x ∧ x < k ∧ (x ∈ a ∨ x ∈ b) := by
  unfold bothN
  rw [List.mem_map]
  constructor
  · rintro ⟨i, hi, rfl⟩
    rw [List.mem_filter, List.mem_range, Bool.or_eq_true, meets_one, meets_one] at hi
    exact ⟨by omega, by omega, hi.2⟩
  · rintro ⟨h0, h1, h2⟩
    have e : ((x.toNat : Nat) : Int) = x := by omega
    refine ⟨x.toNat, List.mem_filter.2 ⟨List.mem_range.2 (by omega), ?_⟩, e⟩
    rw [e, Bool.or_eq_true, meets_one, meets_one]
    exact h2
theorem bothN_pw (a b : List Int) (k : Nat) : (bothN a b k).Pairwise (· < ·) := by
  unfold bothN
  exact List.Pairwise.map (R := (· < ·)) _ (fun a b h => by omega) (List.Pairwise.filter _ List.pairwise_lt_range)
structure UniR (N : Nat) (T : List Tr) (trap : Bool) (one : Int) (ra rb ru : List Int) : Prop where
  w1 : withinN ra (pickN one N) = true
  w2 : withinN ra ru = true
  w3 : withinN rb ru = true
  w4 : ∀ r, LargeL N T trap ra r → r = ra
  w5 : bothN ra rb N ≠ [] → isN N T trap (bothN ra rb N) = true
  w6 : withinN (bothN ra rb N) ru = true
theorem isN_nil (n : Int) (T : List Tr) (trap : Bool) : isN n T trap [] = false := by
  unfold isN closedN
  simp [wordN]
theorem unions_plain {N : Nat} {T : List Tr} {trap : Bool} {one two : Int} {ra rb ru : List Int} (hN : N ≤ 64) (hok : netOK ((N : Int), T) = true) (ha : LargeL N T trap (pickN one N) ra) (hb : LargeL N T trap (pickN two N) rb)
    (hu : LargeL N T trap (pickN (bits .or .i64 one two) N) ru) : UniR N T trap one ra rb ru := by
  unfold LargeL at ha hb hu
  rw [if_pos (pickN_set _ _)] at ha hb hu
  obtain ⟨v1, h1, rfl⟩ := ha
  obtain ⟨v2, h2, rfl⟩ := hb
  obtain ⟨v3, h3, rfl⟩ := hu
  have pl : ∀ b, wordN (pickN b N) < 2 ^ N := fun b => word_lt (fun p hp => by have := pickN_mem.1 hp; omega)
  have l1 : v1 < 2 ^ N := sub_lt h1.sub (pl one)
  have l2 : v2 < 2 ^ N := sub_lt h2.sub (pl two)
  have hN64 : 2 ^ N ≤ 2 ^ 64 := Nat.pow_le_pow_right (by omega) hN
  have s13 : sub v1 v3 := h1.into h3 fun i hi => by
    rw [pick_bit] at hi ⊢
    rw [Bool.and_eq_true, decide_eq_true_eq] at hi
    rw [bitI_or _ _ i (by omega), hi.2]
    simp [hi.1]
  have s23 : sub v2 v3 := h2.into h3 fun i hi => by
    rw [pick_bit] at hi ⊢
    rw [Bool.and_eq_true, decide_eq_true_eq] at hi
    rw [bitI_or _ _ i (by omega), hi.2]
    simp [hi.1]
  have eb : bothN (listN v1) (listN v2) N = listN (v1 ||| v2) := by
    refine asc_ext (bothN_pw _ _ _) (list_pw _) fun x => ?_
    rw [bothN_mem, list_mem, list_mem, list_mem, Nat.testBit_or, Bool.or_eq_true]
    constructor
    · rintro ⟨a, b, c | c⟩
      · exact ⟨a, by omega, .inl c.2.2⟩
      · exact ⟨a, by omega, .inr c.2.2⟩
    · rintro ⟨a, b, c⟩
      have hlt : x.toNat < N := by
        rcases Nat.lt_or_ge x.toNat N with h | h
        · exact h
        · have hp : 2 ^ N ≤ 2 ^ x.toNat := Nat.pow_le_pow_right (by omega) h
          rw [Nat.testBit_lt_two_pow (Nat.lt_of_lt_of_le l1 hp), Nat.testBit_lt_two_pow (Nat.lt_of_lt_of_le l2 hp)] at c
          simp at c
      exact ⟨a, by omega, c.elim (fun h => .inl ⟨a, b, h⟩) (fun h => .inr ⟨a, b, h⟩)⟩
  have l12 : v1 ||| v2 < 2 ^ N := Nat.or_lt_two_pow l1 l2
  refine ⟨?_, within_sub s13, within_sub s23, ?_, ?_, ?_⟩
  · refine within_mem.2 fun x hx => ?_
    have := list_mem.1 hx
    have h4 := h1.sub _ this.2.2
    rw [pick_bit, Bool.and_eq_true, decide_eq_true_eq] at h4
    exact pickN_mem.2 ⟨this.1, by omega, h4.2⟩
  · intro r hr
    unfold LargeL at hr
    rw [if_pos (list_set l1)] at hr
    obtain ⟨v, hv, rfl⟩ := hr
    rw [word_list (by omega)] at hv
    rw [hv.uniq (LargeR.end_ h1.cl)]
  · intro hne
    rw [eb] at hne ⊢
    unfold isN
    rw [list_set l12, word_list (by omega), Bool.true_and]
    refine closed_or h1.cl h2.cl fun h0 => hne ?_
    rw [h0, list_zero]
  · rw [eb]
    exact within_sub (sub_or s13 s23)
end Go.Proofs.YteljfpcmpdpehaaGreatDoor
namespace Go.Proofs.YteljfpcmpdpehaaGreatDoor
open Go.RowKit Go.IntWalk

theorem getD_set (m : List Int) (k i : Nat) (x : Int) (hk : k < m.length) : (m.set k x).getD i 0 = if i = k then x else m.getD i 0 := by
  rw [List.getD_eq_getElem?_getD, List.getElem?_set]
  by_cases h : k = i
  · subst h; simp [hk]
  · rw [if_neg h, if_neg (fun e => h e.symm), List.getD_eq_getElem?_getD]
theorem addN_get (d : Int) : ∀ (s m : List Int), s.Pairwise (· < ·) → (∀ p ∈ s, 0 ≤ p ∧ p < m.length) → ∀ i : Nat, (addN d m s).getD i 0 = m.getD i 0 + (if (i : Int) ∈ s then d else 0)
  | [], m, _, _, i => by simp [addN]
  | p :: s, m, hp, hs, i => by
    obtain ⟨h1, h2⟩ := List.pairwise_cons.1 hp
    have hp0 := hs p (List.mem_cons_self ..)
    have hl : p.toNat < m.length := by omega
    have ih := addN_get d s (m.set p.toNat (m.getD p.toNat 0 + d)) h2 (fun q hq => by rw [List.length_set]; exact hs q (List.mem_cons_of_mem _ hq)) i
    rw [show addN d m (p :: s) = addN d (m.set p.toNat (m.getD p.toNat 0 + d)) s from rfl, ih, getD_set _ _ _ _ hl]
    by_cases hi : i = p.toNat
    · subst hi
      have hns : ¬ ((p.toNat : Nat) : Int) ∈ s := fun hm => by have := h1 _ hm; omega
      have e : ((p.toNat : Nat) : Int) = p := by omega
      rw [if_pos rfl, if_neg hns, if_pos (by rw [e]; exact List.mem_cons_self ..)]
      omega
    · rw [if_neg hi]
      have hip : ¬ (i : Int) = p := by omega
      by_cases hm : (i : Int) ∈ s
      · rw [if_pos hm, if_pos (List.mem_cons_of_mem _ hm)]
      · rw [if_neg hm, if_neg (fun hc => (List.mem_cons.1 hc).elim hip hm)]
structure Fired (N : Nat) (T : List Tr) (m m' : List Int) (t : Tr) : Prop where
  mem : t ∈ T
  len : m'.length = N
  ok : markOK ((N : Int), T) m' = true
  en : ∀ p ∈ t.1, 1 ≤ m.getD p.toNat 0
  get : ∀ i : Nat, m'.getD i 0 = m.getD i 0 - (if (i : Int) ∈ t.1 then 1 else 0) + (if (i : Int) ∈ t.2 then 1 else 0)
theorem net_sets {N : Nat} {T : List Tr} (hok : netOK ((N : Int), T) = true) {t : Tr} (ht : t ∈ T) : setB N t.1 = true ∧ setB N t.2 = true := by
  simp only [netOK, Bool.and_eq_true, decide_eq_true_eq, List.all_eq_true] at hok
  exact hok.2 t ht
theorem fired {N : Nat} {T : List Tr} {m : List Int} {q : Int} (hok : netOK ((N : Int), T) = true) (hmk : markOK ((N : Int), T) m = true) (h : (fireN N T m q).2 = 0) : ∃ t, Fired N T m (fireN N T m q).1 t := by
  unfold fireN at h ⊢
  split at h
  · cases h
  · rename_i hq
    rw [if_neg hq]
    split at h
    · cases h
    · rename_i he
      rw [if_neg he]
      split at h
      · rename_i hm
        rw [if_pos hm]
        have hql : q.toNat < T.length := by omega
        have hT : T.getD q.toNat ([], []) = T[q.toNat] := by rw [List.getD_eq_getElem?_getD, List.getElem?_eq_getElem hql]; rfl
        rw [hT] at hm ⊢
        obtain ⟨s1, s2⟩ := net_sets hok (List.getElem_mem hql)
        have hml : m.length = N := by
          simp only [markOK, Bool.and_eq_true, decide_eq_true_eq] at hmk
          omega
        have b1 : ∀ p ∈ T[q.toNat].1, 0 ≤ p ∧ p < m.length := fun p hp => by have := setB_mem s1 p hp; omega
        have b2 : ∀ p ∈ T[q.toNat].2, 0 ≤ p ∧ p < (addN (-1) m T[q.toNat].1).length := fun p hp => by rw [addN_len]; have := setB_mem s2 p hp; omega
        refine ⟨T[q.toNat], List.getElem_mem hql, by rw [addN_len, addN_len, hml], hm, fun p hp => ?_, fun i => ?_⟩
        · simp only [Bool.not_eq_false] at he
          unfold enN at he
          simp only [Bool.and_eq_true, Bool.not_eq_true', List.any_eq_false, hT] at he
          have := he.2 p hp
          simp only [lowF, decide_eq_true_eq] at this
          omega
        · rw [addN_get 1 _ _ (setB_pw s2) b2 i, addN_get (-1) _ _ (setB_pw s1) b1 i]
          split <;> omega
      · cases h
def emptyN (m s : List Int) : Bool := s.all (fun p => decide (m.getD p.toNat 0 = 0))
def markedN (m s : List Int) : Bool := s.any (fun p => decide (0 < m.getD p.toNat 0))
theorem not_hit {v : Nat} {e : Ed} (h : hit v e = false) (i : Nat) (h1 : e.1.testBit i = true) (h2 : v.testBit i = true) : ∃ j, e.2.testBit j = true ∧ v.testBit j = true := by
  unfold hit at h
  have h3 : e.1 &&& v ≠ 0 := fun hc => and_zero.1 hc i ⟨h1, h2⟩
  simp only [h3, ne_eq, not_false_eq_true, decide_true, Bool.true_and, decide_eq_false_iff_not] at h
  refine Classical.byContradiction fun hc => h (and_zero.2 fun j hj => hc ⟨j, hj⟩)
theorem large_parts {N : Nat} {T : List Tr} {trap : Bool} {b : Int} {r : List Int} (hN : N ≤ 64) (h : LargeL N T trap (pickN b N) r) : ∃ v, r = listN v ∧ v < 2 ^ N ∧ (v = 0 ∨ closedN (edgesN ((N : Int), T) trap) v = true) := by
  unfold LargeL at h
  rw [if_pos (pickN_set _ _)] at h
  obtain ⟨v, hv, rfl⟩ := h
  exact ⟨v, rfl, sub_lt hv.sub (word_lt (fun p hp => by have := pickN_mem.1 hp; omega)), hv.cl⟩
theorem large_is {N : Nat} {T : List Tr} {trap : Bool} {b : Int} {r : List Int} (hN : N ≤ 64) (h : LargeL N T trap (pickN b N) r) : (r.length = 0 ∨ isN N T trap r = true) ∧ setB N r = true := by
  obtain ⟨v, rfl, hl, hc⟩ := large_parts hN h
  refine ⟨?_, list_set hl⟩
  rcases hc with rfl | hc
  · left; rw [list_zero]; rfl
  · right
    unfold isN
    rw [list_set hl, word_list (Nat.lt_of_lt_of_le hl (Nat.pow_le_pow_right (by omega) hN)), hc]
    rfl
theorem word_mem {N : Nat} {s : List Int} (h : setB N s = true) (i : Nat) : (wordN s).testBit i = true ↔ (i : Int) ∈ s := by
  rw [word_bit (fun p hp => (setB_mem h p hp).1)]
  simp
theorem list_bit {v : Nat} {p : Int} (h : p ∈ listN v) : 0 ≤ p ∧ p < 64 ∧ v.testBit p.toNat = true := list_mem.1 h
theorem keep_siphon {N : Nat} {T : List Tr} {b : Int} {s m m' : List Int} {t : Tr} (hN : N ≤ 64) (hok : netOK ((N : Int), T) = true) (h : LargeL N T false (pickN b N) s) (hf : Fired N T m m' t) (he : emptyN m s = true) : emptyN m' s = true := by
  obtain ⟨v, rfl, hl, hc⟩ := large_parts hN h
  obtain ⟨s1, s2⟩ := net_sets hok hf.mem
  unfold emptyN at he ⊢
  rw [List.all_eq_true] at he ⊢
  intro p hp
  have h0 := he p hp
  simp only [decide_eq_true_eq] at h0 ⊢
  obtain ⟨p0, p1, pb⟩ := list_bit hp
  have ep : ((p.toNat : Nat) : Int) = p := by omega
  rcases hc with rfl | hc
  · rw [Nat.zero_testBit] at pb; cases pb
  have hh := (closed_parts hc).2 (wordN t.2, wordN t.1) (List.mem_map.2 ⟨t, hf.mem, rfl⟩)
  have hin : ∀ j : Nat, (j : Int) ∈ t.1 → v.testBit j = true → False := fun j hj hv => by
    have hl2 := setB_mem s1 _ hj
    have := he (j : Int) (list_mem.2 ⟨by omega, by omega, hv⟩)
    simp only [decide_eq_true_eq, Int.toNat_natCast] at this
    have h4 := hf.en _ hj
    rw [Int.toNat_natCast] at h4
    omega
  have hn1 : ¬ ((p.toNat : Nat) : Int) ∈ t.1 := fun hj => hin p.toNat hj pb
  have hn2 : ¬ ((p.toNat : Nat) : Int) ∈ t.2 := fun hj => by
    obtain ⟨j, h1, h2⟩ := not_hit hh p.toNat ((word_mem s2 _).2 hj) pb
    exact hin j ((word_mem s1 _).1 h1) h2
  rw [hf.get, if_neg hn1, if_neg hn2, h0]
  rfl
theorem keep_trap {N : Nat} {T : List Tr} {b : Int} {s m m' : List Int} {t : Tr} (hN : N ≤ 64) (hok : netOK ((N : Int), T) = true) (hmk : markOK ((N : Int), T) m = true) (h : LargeL N T true (pickN b N) s) (hf : Fired N T m m' t) (he : markedN m s = true) : markedN m' s = true := by
  obtain ⟨v, rfl, hl, hc⟩ := large_parts hN h
  obtain ⟨s1, s2⟩ := net_sets hok hf.mem
  unfold markedN at he ⊢
  rw [List.any_eq_true] at he ⊢
  obtain ⟨p, hp, h0⟩ := he
  simp only [decide_eq_true_eq] at h0
  obtain ⟨p0, p1, pb⟩ := list_bit hp
  have ep : ((p.toNat : Nat) : Int) = p := by omega
  rcases hc with rfl | hc
  · rw [Nat.zero_testBit] at pb; cases pb
  have hh := (closed_parts hc).2 (wordN t.1, wordN t.2) (List.mem_map.2 ⟨t, hf.mem, rfl⟩)
  have hpos : ∀ i : Nat, 0 ≤ m.getD i 0 := fun i => by
    simp only [markOK, Bool.and_eq_true, decide_eq_true_eq, List.all_eq_true] at hmk
    rw [List.getD_eq_getElem?_getD]
    by_cases hi : i < m.length
    · rw [List.getElem?_eq_getElem hi]
      exact (hmk.2 _ (List.getElem_mem hi)).1
    · rw [List.getElem?_eq_none (by omega)]
      exact Int.le_refl 0
  by_cases hi : ((p.toNat : Nat) : Int) ∈ t.1
  · obtain ⟨j, h1, h2⟩ := not_hit hh p.toNat ((word_mem s1 _).2 hi) pb
    have hj := (word_mem s2 _).1 h1
    have hjl := setB_mem s2 _ hj
    refine ⟨(j : Int), list_mem.2 ⟨by omega, by omega, h2⟩, ?_⟩
    simp only [decide_eq_true_eq, Int.toNat_natCast]
    rw [hf.get, if_pos hj]
    by_cases hji : (j : Int) ∈ t.1
    · rw [if_pos hji]
      have := hf.en _ hji
      rw [Int.toNat_natCast] at this
      omega
    · rw [if_neg hji]
      have := hpos j
      omega
  · refine ⟨p, hp, ?_⟩
    simp only [decide_eq_true_eq]
    rw [hf.get, if_neg hi]
    split <;> omega
end Go.Proofs.YteljfpcmpdpehaaGreatDoor
namespace Go.Proofs.YteljfpcmpdpehaaGreatDoor
open Go.RowKit Go.IntWalk

theorem clr_sub {f w : Nat} (hf : f < 2 ^ 64) (hw : w < 2 ^ 64) : clr f w = 0 ↔ sub f w := by
  constructor
  · intro h i hi
    have := congrArg (fun x => x.testBit i) h
    simp only [clr_bit hf hw, Nat.zero_testBit, hi, Bool.true_and, Bool.not_eq_false'] at this
    exact this
  · intro h
    refine Nat.eq_of_testBit_eq fun i => ?_
    rw [clr_bit hf hw, Nat.zero_testBit]
    cases hi : f.testBit i with
    | false => rfl
    | true => rw [h i hi]; rfl
theorem minS_sub (l : List Ed) (F : List Nat) (w : Nat) : ∀ f ∈ F, f ∈ minS l F w := fun f hf => by
  unfold minS
  split
  · exact hf
  · exact List.mem_append_left _ hf
theorem fold_sub (l : List Ed) : ∀ (ws F : List Nat), ∀ f ∈ F, f ∈ ws.foldl (minS l) F
  | [], F, f, hf => hf
  | w :: ws, F, f, hf => fold_sub l ws _ f (minS_sub l F w f hf)
/-- What the minimal ones are, behind each word. -/
structure MinI (l : List Ed) (ws F : List Nat) : Prop where
  cl : ∀ f ∈ F, closedN l f = true
  sl : F.Sublist ws
  ap : F.Pairwise (fun a b => clr a b ≠ 0)
  cov : ∀ w ∈ ws, closedN l w = true → ∃ f ∈ F, clr f w = 0
theorem clr_self (w : Nat) (hw : w < 2 ^ 64) : clr w w = 0 := (clr_sub hw hw).2 (sub_refl w)
theorem minI {l : List Ed} {ws : List Nat} (hlt : ∀ w ∈ ws, w < 2 ^ 64) : ∀ k, k ≤ ws.length → MinI l (ws.take k) (minF l (ws.take k))
  | 0, _ => ⟨fun f hf => by simp [minF] at hf, by simp [minF], by simp [minF], fun w hw => by simp at hw⟩
  | k + 1, hk => by
    have ih := minI (l := l) hlt k (by omega)
    have hkl : k < ws.length := by omega
    rw [minF_succ l ws k hkl]
    have htk : ws.take (k + 1) = ws.take k ++ [ws[k]] := by rw [List.take_add_one, List.getElem?_eq_getElem hkl]; rfl
    rw [htk]
    have hw := hlt _ (List.getElem_mem hkl)
    generalize ws[k] = w at *
    generalize minF l (ws.take k) = F at *
    unfold minS
    by_cases h1 : F.any (fun f => decide (clr f w = 0)) = true
    · rw [if_pos (by rw [h1]; rfl)]
      refine ⟨ih.cl, ih.sl.trans (List.sublist_append_left _ _), ih.ap, fun x hx hc => ?_⟩
      rcases List.mem_append.1 hx with hx | hx
      · exact ih.cov x hx hc
      · rw [List.mem_singleton] at hx
        subst hx
        obtain ⟨f, hf, hq⟩ := List.any_eq_true.1 h1
        exact ⟨f, hf, of_decide_eq_true hq⟩
    · by_cases h2 : closedN l w = true
      · have h1f := h1
        simp only [Bool.not_eq_true] at h1
        rw [if_neg (by rw [h1, h2]; decide)]
        refine ⟨fun f hf => ?_, ih.sl.append (List.Sublist.refl _), ?_, fun x hx hc => ?_⟩
        · rcases List.mem_append.1 hf with hf | hf
          · exact ih.cl f hf
          · rw [List.mem_singleton] at hf; subst hf; exact h2
        · refine List.pairwise_append.2 ⟨ih.ap, List.pairwise_singleton _ _, fun a ha b hb => ?_⟩
          rw [List.mem_singleton] at hb
          subst hb
          have := List.any_eq_false.1 h1 a ha
          simpa using this
        · rcases List.mem_append.1 hx with hx | hx
          · obtain ⟨f, hf, hq⟩ := ih.cov x hx hc
            exact ⟨f, List.mem_append_left _ hf, hq⟩
          · rw [List.mem_singleton] at hx
            subst hx
            exact ⟨x, List.mem_append_right _ (List.mem_singleton.2 rfl), clr_self x hw⟩
      · simp only [Bool.not_eq_true] at h2
        rw [if_pos (by rw [h2]; simp)]
        refine ⟨ih.cl, ih.sl.trans (List.sublist_append_left _ _), ih.ap, fun x hx hc => ?_⟩
        rcases List.mem_append.1 hx with hx | hx
        · exact ih.cov x hx hc
        · rw [List.mem_singleton] at hx
          subst hx
          rw [hc] at h2
          cases h2
theorem minAll {l : List Ed} {ws : List Nat} (hlt : ∀ w ∈ ws, w < 2 ^ 64) : MinI l ws (minF l ws) := by
  have := minI (l := l) hlt ws.length (Nat.le_refl _)
  rwa [List.take_length] at this
theorem words_lt {N : Nat} {ws : List Nat} (h : WordsR N ws) : ∀ w ∈ ws, 1 ≤ w ∧ w < 2 ^ N := fun w hw => by
  have := h.perm.mem_iff.1 hw
  rw [List.mem_range'_1] at this
  have := Nat.two_pow_pos N
  omega
theorem words_mem {N : Nat} {ws : List Nat} (h : WordsR N ws) {w : Nat} (h1 : w ≠ 0) (h2 : w < 2 ^ N) : w ∈ ws := by
  refine h.perm.mem_iff.2 (List.mem_range'_1.2 ?_)
  have := Nat.two_pow_pos N
  omega
theorem cmpK_len {a b : Nat} (h : 0 ≤ cmpK b a) : (listN a).length ≤ (listN b).length := by
  rw [cmpK_or] at h
  unfold cmpI at h
  by_cases h1 : ((listN b).length : Int) < (listN a).length
  · simp [h1] at h
  · omega
/-- The minimal siphons, as the law reads them. -/
structure LeastR (N : Nat) (T : List Tr) (S : List Nat) : Prop where
  len : S.length ≤ 2 ^ N
  lt : ∀ f ∈ S, f < 2 ^ N ∧ f ≠ 0
  is : ∀ f ∈ S, isN N T false (listN f) = true
  asc : S.Pairwise (fun a b => (listN a).length ≤ (listN b).length)
  ap1 : S.Pairwise (fun a b => withinN (listN a) (listN b) = false)
  ap2 : S.Pairwise (fun a b => withinN (listN b) (listN a) = false)
  cov : ∀ w, w < 2 ^ N → closedN (edgesN ((N : Int), T) false) w = true → ∃ f ∈ S, sub f w
theorem within_iff {x y : Nat} : withinN (listN x) (listN y) = true ↔ ∀ i : Nat, i < 64 → x.testBit i = true → y.testBit i = true := by
  rw [within_mem]
  constructor
  · intro h i hi hx
    have := list_mem.1 (h (i : Int) (list_mem.2 ⟨by omega, by omega, by simpa using hx⟩))
    simpa using this.2.2
  · intro h p hp
    obtain ⟨a, b, c⟩ := list_mem.1 hp
    exact list_mem.2 ⟨a, b, h _ (by omega) c⟩
theorem within_sub' {x y : Nat} (hx : x < 2 ^ 64) (h : withinN (listN x) (listN y) = true) : sub x y := fun i hi => within_iff.1 h i (bit_lt hx hi) hi
theorem sub_len {x y : Nat} (hx : x < 2 ^ 64) (hy : y < 2 ^ 64) (h : sub x y) (hl : (listN y).length ≤ (listN x).length) : x = y := by
  have hs : ∀ p ∈ listN x, p ∈ listN y := fun p hp => by
    obtain ⟨a, b, c⟩ := list_mem.1 hp
    exact list_mem.2 ⟨a, b, h _ c⟩
  have hsl : (listN x).Sublist (listN y) := by
    have nx : (listN x).Nodup := (list_pw x).imp (fun {a b} h => by omega)
    have ny : (listN y).Nodup := (list_pw y).imp (fun {a b} h => by omega)
    have e : (listN y).filter (fun p => decide (p ∈ listN x)) = listN x := by
      refine asc_ext ((list_pw y).filter _) (list_pw x) fun p => ?_
      rw [List.mem_filter, decide_eq_true_eq]
      exact ⟨fun h => h.2, fun h => ⟨hs p h, h⟩⟩
    rw [← e]
    exact List.filter_sublist
  have := hsl.eq_of_length_le hl
  rw [← word_list hx, ← word_list hy, this]
theorem leastR {N : Nat} {T : List Tr} {ws : List Nat} (hN : N ≤ 64) (h : WordsR N ws) : LeastR N T (minF (edgesN ((N : Int), T) false) ws) := by
  have hN64 : 2 ^ N ≤ 2 ^ 64 := Nat.pow_le_pow_right (by omega) hN
  have hlt : ∀ w ∈ ws, w < 2 ^ 64 := fun w hw => by have := words_lt h w hw; omega
  have hI := minAll (l := edgesN ((N : Int), T) false) hlt
  generalize minF (edgesN ((N : Int), T) false) ws = S at *
  have hmem : ∀ f ∈ S, f ∈ ws := fun f hf => hI.sl.subset hf
  have hfl : ∀ f ∈ S, f < 2 ^ N ∧ f ≠ 0 := fun f hf => by have := words_lt h f (hmem f hf); omega
  have hasc : S.Pairwise (fun a b => (listN a).length ≤ (listN b).length) := (h.sorted.sublist hI.sl).imp (fun {a b} hab => cmpK_len hab)
  have hap1 : S.Pairwise (fun a b => withinN (listN a) (listN b) = false) := hI.ap.imp_of_mem (fun {a b} ha hb hab => by
    cases hq : withinN (listN a) (listN b) with
    | false => rfl
    | true => exact absurd ((clr_sub (hlt a (hmem a ha)) (hlt b (hmem b hb))).2 (within_sub' (hlt a (hmem a ha)) hq)) hab)
  refine ⟨by have h1 := hI.sl.length_le; have h2 := h.perm.length_eq; rw [List.length_range'] at h2; have h3 := Nat.two_pow_pos N; omega, hfl, fun f hf => ?_, hasc, hap1, ?_, fun w hw hc => ?_⟩
  · unfold isN
    rw [list_set (hfl f hf).1, word_list (hlt f (hmem f hf)), hI.cl f hf]
    rfl
  · refine (hasc.and hap1).imp_of_mem (fun {a b} ha hb hab => ?_)
    cases hq : withinN (listN b) (listN a) with
    | false => rfl
    | true =>
      have e := sub_len (hlt b (hmem b hb)) (hlt a (hmem a ha)) (within_sub' (hlt b (hmem b hb)) hq) hab.1
      have h2 := hab.2
      rw [e, within_sub (sub_refl a)] at h2
      cases h2
  · obtain ⟨f, hf, hq⟩ := hI.cov w (words_mem h (closed_parts hc).1 hw) hc
    exact ⟨f, hf, (clr_sub (hlt f (hmem f hf)) (by omega)).1 hq⟩
/-! ### PetriStuck -/
def zeroK (m : List Int) (k : Nat) : List Int := ((List.range k).filter (fun i => decide (m.getD i 0 = 0))).map (fun (i : Nat) => (i : Int))
theorem zeroK_succ (m : List Int) (k : Nat) : zeroK m (k + 1) = if m.getD k 0 = 0 then zeroK m k ++ [(k : Int)] else zeroK m k := by
  unfold zeroK
  rw [List.range_succ, List.filter_append, List.map_append]
  split
  · rename_i h; simp only [List.filter_cons, h, decide_true, if_true]; rfl
  · rename_i h; simp only [List.filter_cons, List.filter_nil, h, decide_false, Bool.false_eq_true, if_false, List.map_nil, List.append_nil]
theorem zeroK_len (m : List Int) (k : Nat) : (zeroK m k).length ≤ k := by
  unfold zeroK
  rw [List.length_map]
  exact Nat.le_trans (List.length_filter_le _ _) (by simp)
theorem zeroK_mem {m : List Int} {k : Nat} {x : Int} : x ∈ zeroK m k ↔ 0 ≤ x ∧ x < k ∧ m.getD x.toNat 0 = 0 := by
  unfold zeroK
  rw [List.mem_map]
  constructor
  · rintro ⟨i, hi, rfl⟩
    rw [List.mem_filter, List.mem_range] at hi
    exact ⟨by omega, by omega, by simpa using hi.2⟩
  · rintro ⟨h0, h1, h2⟩
    exact ⟨x.toNat, List.mem_filter.2 ⟨List.mem_range.2 (by omega), decide_eq_true h2⟩, by omega⟩
theorem zeroK_pw (m : List Int) (k : Nat) : (zeroK m k).Pairwise (· < ·) := by
  unfold zeroK
  exact List.Pairwise.map (R := (· < ·)) _ (fun a b h => by omega) (List.Pairwise.filter _ List.pairwise_lt_range)
theorem stuck_low {N : Nat} {T : List Tr} {m : List Int} (hok : netOK ((N : Int), T) = true) (hmk : markOK ((N : Int), T) m = true) (hlv : (liveK T m T.length).length = 0) {t : Tr} (ht : t ∈ T) : ∃ p ∈ t.1, p ∈ zeroK m N := by
  obtain ⟨k, hk, rfl⟩ := List.getElem_of_mem ht
  have hnil : liveK T m T.length = [] := List.eq_nil_of_length_eq_zero hlv
  have hen : enN T m (k : Nat) = false := by
    cases hq : enN T m (k : Nat) with
    | false => rfl
    | true =>
      have : (k : Int) ∈ liveK T m T.length := by
        unfold liveK
        exact List.mem_map.2 ⟨k, List.mem_filter.2 ⟨List.mem_range.2 hk, hq⟩, rfl⟩
      rw [hnil] at this
      cases this
  have hT : T.getD (k : Int).toNat ([], []) = T[k] := by rw [Int.toNat_natCast, List.getD_eq_getElem?_getD, List.getElem?_eq_getElem hk]; rfl
  unfold enN at hen
  rw [hT] at hen
  have h1 : decide (0 ≤ (k : Int)) = true := decide_eq_true (by omega)
  have h2 : decide ((k : Int) < T.length) = true := decide_eq_true (by omega)
  rw [h1, h2] at hen
  simp only [Bool.true_and, Bool.not_eq_false', List.any_eq_true] at hen
  obtain ⟨p, hp, hq⟩ := hen
  obtain ⟨s1, _⟩ := net_sets hok (List.getElem_mem hk)
  have hpr := setB_mem s1 p hp
  simp only [lowF, decide_eq_true_eq] at hq
  simp only [markOK, Bool.and_eq_true, decide_eq_true_eq, List.all_eq_true] at hmk
  refine ⟨p, hp, zeroK_mem.2 ⟨hpr.1, hpr.2, ?_⟩⟩
  have hpl : p.toNat < m.length := by have := hmk.1; omega
  have := (hmk.2 _ (List.getElem_mem hpl)).1
  rw [List.getD_eq_getElem?_getD, List.getElem?_eq_getElem hpl] at hq ⊢
  simp only [Option.getD_some] at hq ⊢
  omega
structure StuckR (N : Nat) (T : List Tr) (m : List Int) (S : List Nat) : Prop where
  is : isN N T false (zeroK m N) = true
  ex : S.any (fun f => emptyN m (listN f)) = true
theorem stuck_plain {N : Nat} {T : List Tr} {m : List Int} {S : List Nat} (hN : N ≤ 64) (hok : netOK ((N : Int), T) = true) (hmk : markOK ((N : Int), T) m = true) (hT : 0 < T.length) (hlv : (liveK T m T.length).length = 0) (hS : LeastR N T S) : StuckR N T m S := by
  have hset : setB N (zeroK m N) = true := setB_of (zeroK_pw m N) (fun x hx => by have := zeroK_mem.1 hx; omega)
  have hwl : wordN (zeroK m N) < 2 ^ N := word_lt (fun p hp => by have := zeroK_mem.1 hp; omega)
  have hbit : ∀ i : Nat, (wordN (zeroK m N)).testBit i = true ↔ (i : Int) ∈ zeroK m N := fun i => word_mem hset i
  have hcl : closedN (edgesN ((N : Int), T) false) (wordN (zeroK m N)) = true := by
    refine closed_of ?_ fun e he => ?_
    · obtain ⟨p, _, hp⟩ := stuck_low hok hmk hlv (List.getElem_mem (show 0 < T.length from hT))
      have hp0 := zeroK_mem.1 hp
      intro h0
      have := (hbit p.toNat).2 (by rw [show ((p.toNat : Nat) : Int) = p by omega]; exact hp)
      rw [h0, Nat.zero_testBit] at this
      cases this
    · obtain ⟨t, ht, rfl⟩ := List.mem_map.1 he
      obtain ⟨s1, _⟩ := net_sets hok ht
      obtain ⟨p, h1, h2⟩ := stuck_low hok hmk hlv ht
      have hp0 := zeroK_mem.1 h2
      have hne : wordN t.1 &&& wordN (zeroK m N) ≠ 0 := fun hc => and_zero.1 hc p.toNat ⟨(word_mem s1 _).2 (by rw [show ((p.toNat : Nat) : Int) = p by omega]; exact h1), (hbit _).2 (by rw [show ((p.toNat : Nat) : Int) = p by omega]; exact h2)⟩
      simp [hit, hne]
  refine ⟨by unfold isN; rw [hset, hcl]; rfl, ?_⟩
  obtain ⟨f, hf, hs⟩ := hS.cov _ hwl hcl
  refine List.any_eq_true.2 ⟨f, hf, ?_⟩
  unfold emptyN
  rw [List.all_eq_true]
  intro p hp
  obtain ⟨a, b, c⟩ := list_mem.1 hp
  have := (hbit _).1 (hs _ c)
  rw [show ((p.toNat : Nat) : Int) = p by omega] at this
  exact decide_eq_true (zeroK_mem.1 this).2.2
/-! ### PetriLeast -/
theorem least_some {N : Nat} {T : List Tr} {b : Int} {r : List Int} {S : List Nat} (hN : N ≤ 64) (hS : LeastR N T S) (h : LargeL N T false (pickN b N) r) : S.any (fun f => withinN (listN f) (pickN b N)) = decide (0 < r.length) := by
  unfold LargeL at h
  rw [if_pos (pickN_set _ _)] at h
  obtain ⟨v, hv, rfl⟩ := h
  have hN64 : 2 ^ N ≤ 2 ^ 64 := Nat.pow_le_pow_right (by omega) hN
  have hvl : v < 2 ^ N := sub_lt hv.sub (word_lt (fun p hp => by have := pickN_mem.1 hp; omega))
  have hpk : ∀ i : Nat, (wordN (pickN b N)).testBit i = true ↔ (i : Int) ∈ pickN b N := fun i => word_mem (pickN_set b N) i
  have hwi : ∀ f, f < 2 ^ N → (withinN (listN f) (pickN b N) = true ↔ sub f (wordN (pickN b N))) := fun f hf => by
    rw [within_mem]
    constructor
    · intro h i hi
      have := bit_lt (Nat.lt_of_lt_of_le hf hN64) hi
      exact (hpk i).2 (h (i : Int) (list_mem.2 ⟨by omega, by omega, by simpa using hi⟩))
    · intro h p hp
      obtain ⟨a, _, c⟩ := list_mem.1 hp
      have := (hpk _).1 (h _ c)
      rwa [show ((p.toNat : Nat) : Int) = p by omega] at this
  rw [Bool.eq_iff_iff, List.any_eq_true, decide_eq_true_eq]
  constructor
  · rintro ⟨f, hf, hq⟩
    have hfl := hS.lt f hf
    have hi := hS.is f hf
    unfold isN at hi
    rw [list_set hfl.1, word_list (by omega), Bool.true_and] at hi
    have hsv := hv.max f hi ((hwi f hfl.1).1 hq)
    refine List.length_pos_iff.2 fun he => hfl.2 ?_
    refine Nat.eq_of_testBit_eq fun i => ?_
    rw [Nat.zero_testBit]
    cases hb : f.testBit i with
    | false => rfl
    | true =>
      have h1 := hsv i hb
      have h2 := bit_lt (Nat.lt_of_lt_of_le hvl hN64) h1
      have : (i : Int) ∈ listN v := list_mem.2 ⟨by omega, by omega, by simpa using h1⟩
      rw [he] at this
      cases this
  · intro hpos
    have hv0 : v ≠ 0 := fun h0 => by rw [h0, list_zero] at hpos; simp at hpos
    obtain ⟨f, hf, hs⟩ := hS.cov v hvl (hv.cl.resolve_left hv0)
    exact ⟨f, hf, (hwi f (hS.lt f hf).1).2 (sub_trans hs hv.sub)⟩
end Go.Proofs.YteljfpcmpdpehaaGreatDoor
namespace Go.Proofs.YteljfpcmpdpehaaGreatDoor
open Go.RowKit Go.IntWalk

theorem weightN_set (d : Int) : ∀ (m ws : List Int) (p : Nat), p < m.length → p < ws.length → weightN (m.set p (m.getD p 0 + d)) ws = weightN m ws + d * ws.getD p 0
  | x :: m, y :: ws, 0, _, _ => by
    simp only [weightN, List.set_cons_zero, List.zip_cons_cons, List.map_cons, List.sum_cons, List.getD_cons_zero, Int.add_mul]
    omega
  | x :: m, y :: ws, p + 1, h1, h2 => by
    have ih := weightN_set d m ws p (by simpa using h1) (by simpa using h2)
    simp only [weightN, List.set_cons_succ, List.zip_cons_cons, List.map_cons, List.sum_cons, List.getD_cons_succ] at ih ⊢
    omega
theorem weightN_add (d : Int) (ws : List Int) : ∀ (s m : List Int), (∀ p ∈ s, 0 ≤ p ∧ p < m.length) → m.length = ws.length → weightN (addN d m s) ws = weightN m ws + d * sumN ws s
  | [], m, _, _ => by simp [addN, sumN]
  | p :: s, m, hs, hl => by
    have hp := hs p (List.mem_cons_self ..)
    have ih := weightN_add d ws s (m.set p.toNat (m.getD p.toNat 0 + d)) (fun q hq => by rw [List.length_set]; exact hs q (List.mem_cons_of_mem _ hq)) (by rw [List.length_set]; exact hl)
    rw [show addN d m (p :: s) = addN d (m.set p.toNat (m.getD p.toNat 0 + d)) s from rfl, ih, weightN_set d m ws p.toNat (by omega) (by omega)]
    simp only [sumN, List.map_cons, List.sum_cons, Int.mul_add]
    omega
def stepN (m : List Int) (t : Tr) : List Int := addN 1 (addN (-1) m t.1) t.2
theorem step_weight {N : Nat} {T : List Tr} {ws m : List Int} {t : Tr} (hok : netOK ((N : Int), T) = true) (ht : t ∈ T) (hm : m.length = N) (hw : ws.length = N) : weightN (stepN m t) ws = weightN m ws - sumN ws t.1 + sumN ws t.2 := by
  obtain ⟨s1, s2⟩ := net_sets hok ht
  unfold stepN
  rw [weightN_add 1 ws t.2 _ (fun p hp => by rw [addN_len]; have := setB_mem s2 p hp; omega) (by rw [addN_len]; omega), weightN_add (-1) ws t.1 m (fun p hp => by have := setB_mem s1 p hp; omega) (by omega)]
  omega
theorem fired_eq {N : Nat} {T : List Tr} {m : List Int} {q : Int} (h : (fireN N T m q).2 = 0) : ∃ t ∈ T, (fireN N T m q).1 = stepN m t ∧ markOK ((N : Int), T) (fireN N T m q).1 = true := by
  unfold fireN at h ⊢
  split at h
  · cases h
  · rename_i hq
    rw [if_neg hq]
    split at h
    · cases h
    · rename_i he
      rw [if_neg he]
      split at h
      · rename_i hm
        rw [if_pos hm]
        have hql : q.toNat < T.length := by omega
        have hT : T.getD q.toNat ([], []) = T[q.toNat] := by rw [List.getD_eq_getElem?_getD, List.getElem?_eq_getElem hql]; rfl
        rw [hT] at hm ⊢
        exact ⟨T[q.toNat], List.getElem_mem hql, rfl, hm⟩
      · cases h
def unbal (ws : List Int) (t : Tr) : Bool := decide (sumN ws t.1 ≠ sumN ws t.2)
def invN (T : List Tr) (ws : List Int) : Bool := !T.any (unbal ws)
theorem inv_weight {N : Nat} {T : List Tr} {ws m : List Int} {q : Int} (hok : netOK ((N : Int), T) = true) (hi : invN T ws = true) (hm : m.length = N) (hw : ws.length = N) (h : (fireN N T m q).2 = 0) : weightN (fireN N T m q).1 ws = weightN m ws ∧ markOK ((N : Int), T) (fireN N T m q).1 = true := by
  obtain ⟨t, ht, e, hk⟩ := fired_eq h
  refine ⟨?_, hk⟩
  rw [e, step_weight hok ht hm hw]
  simp only [invN, Bool.not_eq_true', List.any_eq_false, unbal, decide_eq_true_eq, ne_eq, Classical.not_not] at hi
  have := hi t ht
  omega
/-! ### One mark in each place -/
def onesN (N : Nat) : List Int := List.replicate N 1
theorem fire_ones {N : Nat} {T : List Tr} (hok : netOK ((N : Int), T) = true) (k : Nat) (hk : k < T.length) : fireN N T (onesN N) (k : Int) = (stepN (onesN N) T[k], 0) ∧ markOK ((N : Int), T) (stepN (onesN N) T[k]) = true := by
  obtain ⟨s1, s2⟩ := net_sets hok (List.getElem_mem hk)
  have hol : (onesN N).length = N := by unfold onesN; rw [List.length_replicate]
  have hT : T.getD (k : Int).toNat ([], []) = T[k] := by rw [Int.toNat_natCast, List.getD_eq_getElem?_getD, List.getElem?_eq_getElem hk]; rfl
  have h1 : ∀ p : Int, 0 ≤ p → p < N → (onesN N).getD p.toNat 0 = 1 := fun p h0 hp => by
    unfold onesN
    rw [List.getD_eq_getElem?_getD, List.getElem?_replicate, if_pos (by omega)]
    rfl
  have hen : enN T (onesN N) (k : Int) = true := by
    unfold enN
    rw [hT]
    simp only [Bool.and_eq_true, decide_eq_true_eq, Bool.not_eq_true', List.any_eq_false]
    refine ⟨⟨by omega, by omega⟩, fun p hp => ?_⟩
    have := setB_mem s1 p hp
    simp only [lowF, decide_eq_true_eq]
    rw [h1 p this.1 this.2]
    omega
  have hmk : markOK ((N : Int), T) (stepN (onesN N) T[k]) = true := by
    unfold markOK stepN
    simp only [Bool.and_eq_true, decide_eq_true_eq, List.all_eq_true]
    refine ⟨by rw [addN_len, addN_len, hol], fun x hx => ?_⟩
    obtain ⟨i, hi, rfl⟩ := List.getElem_of_mem hx
    have hil : i < N := by rw [addN_len, addN_len, hol] at hi; exact hi
    have hg : (addN 1 (addN (-1) (onesN N) T[k].1) T[k].2)[i] = (addN 1 (addN (-1) (onesN N) T[k].1) T[k].2).getD i 0 := by rw [List.getD_eq_getElem?_getD, List.getElem?_eq_getElem hi]; rfl
    rw [hg, addN_get 1 _ _ (setB_pw s2) (fun p hp => by rw [addN_len, hol]; have := setB_mem s2 p hp; omega) i, addN_get (-1) _ _ (setB_pw s1) (fun p hp => by rw [hol]; have := setB_mem s1 p hp; omega) i]
    have := h1 (i : Int) (by omega) (by omega)
    rw [Int.toNat_natCast] at this
    rw [this]
    split <;> split <;> omega
  refine ⟨?_, hmk⟩
  unfold fireN
  rw [if_neg (by omega), hen, hT]
  simp only [Bool.true_eq_false, if_false]
  exact if_pos hmk
/-- A weighting that is no invariant: some transition changes the weight of the marking with one mark in each place. -/
theorem unbal_ones {N : Nat} {T : List Tr} {ws : List Int} (hok : netOK ((N : Int), T) = true) (hw : ws.length = N) (k : Nat) (hk : k < T.length) : unbal ws T[k] = decide (weightN (fireN N T (onesN N) (k : Int)).1 ws ≠ weightN (onesN N) ws) := by
  rw [(fire_ones hok k hk).1, step_weight hok (List.getElem_mem hk) (by unfold onesN; rw [List.length_replicate]) hw]
  unfold unbal
  refine decide_eq_decide.2 ?_
  omega
theorem wt_parts {n : Int} {ws : List Int} (h : wtOK n ws = true) : (ws.length : Int) = n ∧ ∀ x ∈ ws, -100000 ≤ x ∧ x ≤ 100000 := by
  unfold wtOK at h
  simp only [Bool.and_eq_true, decide_eq_true_eq, List.all_eq_true] at h
  refine ⟨h.2, fun x hx => ?_⟩
  have := h.1 x hx
  simp only [wtF, Bool.and_eq_true, decide_eq_true_eq] at this
  omega
end Go.Proofs.YteljfpcmpdpehaaGreatDoor
namespace Go.Proofs.YteljfpcmpdpehaaGreatDoor
open Go.RowKit Go.IntWalk Go.Shelf

set_option maxRecDepth 100000 in
set_option maxHeartbeats 2000000 in
theorem unbal_any (t : Tr) (A1 A2 : Option Addr) (c1 c2 : Nat) (B : Option Addr) (d gw gs : Nat) (ws : List Int) (w : World) (h1 : SlR w w.heap.size A1 t.1) (h2 : SlR w w.heap.size A2 t.2) (hW : SlR w w.heap.size B ws) (hl1 : t.1.length ≤ 64) (hl2 : t.2.length ≤ 64) (hlw : ws.length ≤ 64)
    (xw : Blk w gw 25 #[.slice B ws.length d]) (xs : Blk w gs 79 #[.func (.func 72) #[] #[.pointer (some ⟨gw, 0, none⟩)]]) (hs1 : ∀ x ∈ t.1, 0 ≤ x ∧ x < ws.length) (hs2 : ∀ x ∈ t.2, 0 ≤ x ∧ x < ws.length) (hw : ∀ x ∈ ws, -100000 ≤ x ∧ x ≤ 100000) :
    Calls Tryz.prog 73 #[.agg #[.slice A1 t.1.length c1, .slice A2 t.2.length c2], .pointer (some ⟨gs, 0, none⟩)] w fun e w' => e = .returned (.bool (unbal ws t)) ∧ Below w.heap.size w w' := by
  obtain ⟨I, O⟩ := t
  simp only at *
  obtain ⟨w1, hw1⟩ : ∃ w1, w1 = (w.alloc (Obj.cells #[.slice A1 I.length c1, .slice A2 O.length c2] 47)) := ⟨_, rfl⟩
  have B1 := hid (show Below w.heap.size w w1 by rw [hw1]; (repeat (first | exact Below.refl _ _ | assumption | refine below_drewN ?_ _ | refine Below.drew ?_ | refine Below.alloc ?_ (by (try simp); (try omega)) _ | refine Below.setCell ?_ (by (try simp); (try omega)) _)))
  have X1 := hid (show Blk w1 w.heap.size 47 #[.slice A1 I.length c1, .slice A2 O.length c2] by rw [hw1]; exact Blk.new w _ _)
  have XS := hid (xs.below B1.out xs.lt)
  have HC1 := hid (fun (W : World) (hq : Below w1.heap.size w1 W) => show Calls Tryz.prog 72 #[.slice A1 I.length c1, .pointer (some ⟨gw, 0, none⟩)] W fun e w' => e = .returned (.int .i64 (sumN ws I)) ∧ Below W.heap.size W w' from
    (sum_any A1 c1 I B d gw ws W ((h1.below (B1.out.trans (hq.mono B1.out.size))).more (B1.out.trans (hq.mono B1.out.size)).size) ((hW.below (B1.out.trans (hq.mono B1.out.size))).more (B1.out.trans (hq.mono B1.out.size)).size) hl1 hlw (xw.below (B1.out.trans (hq.mono B1.out.size)) xw.lt) hs1 hw).mono (fun e w' ⟨he, hb⟩ => ⟨he, hb ▸ Below.refl _ _⟩))
  have HC2 := hid (fun (W : World) (hq : Below w1.heap.size w1 W) => show Calls Tryz.prog 72 #[.slice A2 O.length c2, .pointer (some ⟨gw, 0, none⟩)] W fun e w' => e = .returned (.int .i64 (sumN ws O)) ∧ Below W.heap.size W w' from
    (sum_any A2 c2 O B d gw ws W ((h2.below (B1.out.trans (hq.mono B1.out.size))).more (B1.out.trans (hq.mono B1.out.size)).size) ((hW.below (B1.out.trans (hq.mono B1.out.size))).more (B1.out.trans (hq.mono B1.out.size)).size) hl2 hlw (xw.below (B1.out.trans (hq.mono B1.out.size)) xw.lt) hs2 hw).mono (fun e w' ⟨he, hb⟩ => ⟨he, hb ▸ Below.refl _ _⟩))
  have hu := hid (show unbal ws (I, O) = decide (sumN ws I ≠ sumN ws O) from rfl)
  clear h1 h2 hW xw xs hs1 hs2 hw
  generalize sumN ws I = a at *
  generalize sumN ws O = b at *
  go_enter Tryz.func73, Tryz.ntmps73
  go_upto_region 1 with fail
  rw [← hw1]
  clear hw1
  have x0 := X1.out.cell 0; have x1 := X1.out.cell 1; have xz := X1.out.lt; have s0 := XS.out.cell 0; have sz := XS.out.lt
  simp at x0 x1 s0
  have HSF := hid (fun (wq : World) (hq : Below w1.heap.size w1 wq) => And.intro ((bcell hq _ _ xz).trans x0) (And.intro ((bcell hq _ _ xz).trans x1) ((bcell hq _ _ sz).trans s0)))
  have BD := hid ((Below.refl w1.heap.size w1).drew)
  refine wpIn_wide.1 (wpIn_region_S (n := 0) (fun wq => Below w1.heap.size w1 wq) [] (by kernel_rfl) BD.out (fun hHeld => ?_))
  generalize w1.drew = wd at *
  refine wpAnyG_take 0 (v := ?_) (fun _ => trivial) (by simp only [List.getElem?_toArray, List.getElem?_cons_succ, List.getElem?_cons_zero]; rfl) (by kernel_rfl) (fun _ _ _ _ _ h => h) ⟨(by rfl), (by intro c h; cases h), ?_⟩ hHeld ?_
  rotate_left
  focus (intro wS hSw; (try replace hSw := HSF.out wS hSw); (try dsimp only at hSw); go_simp; (try with_reducible rfl))
  (try simp only [Act.put, List.setIfInBounds_toArray, List.set_cons_zero, List.set_cons_succ])
  refine wpAnyG_pure 1 (v := ?_) (fun _ => trivial) (by simp only [List.getElem?_toArray, List.getElem?_cons_succ, List.getElem?_cons_zero]; rfl) (by kernel_rfl) (fun _ _ _ _ _ h => h) ⟨(by rfl), (by intro c h; cases h), ?_⟩ hHeld ?_
  rotate_left
  focus (intro wS hSw; (try replace hSw := HSF.out wS hSw); (try dsimp only at hSw); go_simp; (try with_reducible rfl))
  (try simp only [Act.put, List.setIfInBounds_toArray, List.set_cons_zero, List.set_cons_succ])
  refine wpAnyG_take 2 (v := ?_) (fun _ => trivial) (by simp only [List.getElem?_toArray, List.getElem?_cons_succ, List.getElem?_cons_zero]; rfl) (by kernel_rfl) (fun _ _ _ _ _ h => h) ⟨(by rfl), (by intro c h; cases h), ?_⟩ hHeld ?_
  rotate_left
  focus (intro wS hSw; (try replace hSw := HSF.out wS hSw); (try dsimp only at hSw); go_simp; (try with_reducible rfl))
  (try simp only [Act.put, List.setIfInBounds_toArray, List.set_cons_zero, List.set_cons_succ])
  refine wpAnyG_take 4 (v := ?_) (fun _ => trivial) (by simp only [List.getElem?_toArray, List.getElem?_cons_succ, List.getElem?_cons_zero]; rfl) (by kernel_rfl) (fun _ _ _ _ _ h => h) ⟨(by rfl), (by intro c h; cases h), ?_⟩ hHeld ?_
  rotate_left
  focus (intro wS hSw; (try replace hSw := HSF.out wS hSw); (try dsimp only at hSw); go_simp; (try with_reducible rfl))
  (try simp only [Act.put, List.setIfInBounds_toArray, List.set_cons_zero, List.set_cons_succ])
  refine wpAnyG_pure 5 (v := ?_) (fun _ => trivial) (by simp only [List.getElem?_toArray, List.getElem?_cons_succ, List.getElem?_cons_zero]; rfl) (by kernel_rfl) (fun _ _ _ _ _ h => h) ⟨(by rfl), (by intro c h; cases h), ?_⟩ hHeld ?_
  rotate_left
  focus (intro wS hSw; (try replace hSw := HSF.out wS hSw); (try dsimp only at hSw); go_simp; (try with_reducible rfl))
  (try simp only [Act.put, List.setIfInBounds_toArray, List.set_cons_zero, List.set_cons_succ])
  refine wpAnyG_take 6 (v := ?_) (fun _ => trivial) (by simp only [List.getElem?_toArray, List.getElem?_cons_succ, List.getElem?_cons_zero]; rfl) (by kernel_rfl) (fun _ _ _ _ _ h => h) ⟨(by rfl), (by intro c h; cases h), ?_⟩ hHeld ?_
  rotate_left
  focus (intro wS hSw; (try replace hSw := HSF.out wS hSw); (try dsimp only at hSw); go_simp; (try with_reducible rfl))
  (try simp only [Act.put, List.setIfInBounds_toArray, List.set_cons_zero, List.set_cons_succ])
  refine wpAnyS_ready [3] (by kernel_rfl) (by simp) (AllReadyS.consG (by simp only [List.getElem?_toArray, List.getElem?_cons_succ, List.getElem?_cons_zero]; rfl) (by rfl) (fun K hK => ?_) AllReadyS.nil)
  refine callS (by intro c h; cases h) (by go_simp; try with_reducible rfl) (HC1.out _ BD.out) ?_
  intro w3 hBq
  have B3 := hid (BD.out.trans (hBq.mono BD.out.size))
  refine hK.out _ _ B3.out ?_
  (try simp only [Act.put, List.setIfInBounds_toArray, List.set_cons_zero, List.set_cons_succ])
  clear hK K hBq
  clear hHeld
  have hHeld := B3.out
  refine wpAnyS_ready [7] (by kernel_rfl) (by simp) (AllReadyS.consG (by simp only [List.getElem?_toArray, List.getElem?_cons_succ, List.getElem?_cons_zero]; rfl) (by rfl) (fun K hK => ?_) AllReadyS.nil)
  refine callS (by intro c h; cases h) (by go_simp; try with_reducible rfl) (HC2.out _ B3.out) ?_
  intro w7 hBq
  have B7 := hid (B3.out.trans (hBq.mono B3.out.size))
  refine hK.out _ _ B7.out ?_
  (try simp only [Act.put, List.setIfInBounds_toArray, List.set_cons_zero, List.set_cons_succ])
  clear hK K hBq
  clear hHeld
  have hHeld := B7.out
  by_cases hab : a = b
  · have hab2 := hid (show unbal ws (I, O) = false by rw [hu.out]; simp [hab])
    subst hab
    refine wpAnyG_pure 8 (v := ?_) (fun _ => trivial) (by simp only [List.getElem?_toArray, List.getElem?_cons_succ, List.getElem?_cons_zero]; rfl) (by kernel_rfl) (fun _ _ _ _ _ h => h) ⟨(by rfl), (by intro c h; cases h), ?_⟩ hHeld ?_
    rotate_left
    focus (intro wS hSw; (try replace hSw := HSF.out wS hSw); (try dsimp only at hSw); go_simp; (try with_reducible rfl))
    (try simp only [Act.put, List.setIfInBounds_toArray, List.set_cons_zero, List.set_cons_succ])
    refine wpAnyG_pure 9 (v := ?_) (fun _ => trivial) (by simp only [List.getElem?_toArray, List.getElem?_cons_succ, List.getElem?_cons_zero]; rfl) (by kernel_rfl) (fun _ _ _ _ _ h => h) ⟨(by rfl), (by intro c h; cases h), ?_⟩ hHeld ?_
    rotate_left
    focus (intro wS hSw; (try replace hSw := HSF.out wS hSw); (try dsimp only at hSw); go_simp; (try with_reducible rfl))
    (try simp only [Act.put, List.setIfInBounds_toArray, List.set_cons_zero, List.set_cons_succ])
    refine wpAnyS_done (by kernel_rfl) ?_
    clear hHeld HSF
    have BW := hid (B1.out.trans (B7.out.mono B1.out.size))
    go_wp2_with fail
    go_ret
    exact ⟨ret_bool (by first | exact hab2.out.symm | (rw [hab2.out]; simp)), BW.out⟩
  · have hab2 := hid (show unbal ws (I, O) = true by rw [hu.out]; simp [hab])
    have hbe : (a != b) = true := by simp [hab]
    refine wpAnyG_pure 8 (v := ?_) (fun _ => trivial) (by simp only [List.getElem?_toArray, List.getElem?_cons_succ, List.getElem?_cons_zero]; rfl) (by kernel_rfl) (fun _ _ _ _ _ h => h) ⟨(by rfl), (by intro c h; cases h), ?_⟩ hHeld ?_
    rotate_left
    focus (intro wS hSw; (try replace hSw := HSF.out wS hSw); (try dsimp only at hSw); go_simp; (try with_reducible rfl))
    (try simp only [Act.put, List.setIfInBounds_toArray, List.set_cons_zero, List.set_cons_succ])
    refine wpAnyG_pure 9 (v := ?_) (fun _ => trivial) (by simp only [List.getElem?_toArray, List.getElem?_cons_succ, List.getElem?_cons_zero]; rfl) (by kernel_rfl) (fun _ _ _ _ _ h => h) ⟨(by rfl), (by intro c h; cases h), ?_⟩ hHeld ?_
    rotate_left
    focus (intro wS hSw; (try replace hSw := HSF.out wS hSw); (try dsimp only at hSw); go_simp; (try with_reducible rfl))
    (try simp only [Act.put, List.setIfInBounds_toArray, List.set_cons_zero, List.set_cons_succ])
    refine wpAnyS_done (by kernel_rfl) ?_
    clear hHeld HSF
    have BW := hid (B1.out.trans (B7.out.mono B1.out.size))
    go_wp2_with fail
    go_ret
    exact ⟨ret_bool (by first | exact hab2.out.symm | (rw [hab2.out]; simp [hab])), BW.out⟩
set_option maxRecDepth 100000 in
set_option maxHeartbeats 2000000 in
theorem inv_any (N : Nat) (A : Option Addr) (c : Nat) (T : List Tr) (B : Option Addr) (d : Nat) (ws : List Int) (w : World) (hl : T.length ≤ maxLen) (h : SlR w w.heap.size A T) (hW : SlR w w.heap.size B ws) (hok : netOK ((N : Int), T) = true) (hwt : wtOK (N : Int) ws = true) :
    Calls Tryz.prog 24 #[.agg #[.int .i64 (N : Nat), .slice A T.length c], .slice B ws.length d] w fun e w' => e = .returned (.bool (invN T ws)) ∧ Below w.heap.size w w' := by
  obtain ⟨hwl, hwr⟩ := wt_parts hwt
  have hN64 : N ≤ 64 := by
    simp only [netOK, Bool.and_eq_true, decide_eq_true_eq] at hok
    omega
  obtain ⟨w3, hw3⟩ : ∃ w3, w3 = ((w.alloc (Obj.cells #[.int .i64 (N : Nat), .slice A T.length c] 24)).alloc (Obj.cells #[.slice B ws.length d] 25)).alloc (Obj.cells #[.func (.func 72) #[] #[.pointer (some ⟨w.heap.size + 1, 0, none⟩)]] 79) := ⟨_, rfl⟩
  have B3 := hid (show Below w.heap.size w w3 by rw [hw3]; (repeat (first | exact Below.refl _ _ | assumption | refine below_drewN ?_ _ | refine Below.drew ?_ | refine Below.alloc ?_ (by (try simp); (try omega)) _ | refine Below.setCell ?_ (by (try simp); (try omega)) _)))
  have X1 := hid (show Blk w3 w.heap.size 24 #[.int .i64 (N : Nat), .slice A T.length c] by rw [hw3]; exact ((Blk.new w _ _).alloc _).alloc _)
  have X2 := hid (show Blk w3 (w.heap.size + 1) 25 #[.slice B ws.length d] by rw [hw3]; exact (Blk.new_at (by simp)).alloc _)
  have X3 := hid (show Blk w3 (w.heap.size + 1 + 1) 79 #[.func (.func 72) #[] #[.pointer (some ⟨w.heap.size + 1, 0, none⟩)]] by rw [hw3]; exact Blk.new_at (by simp))
  have HC := hid (ctt_any 73 #[.pointer (some ⟨w.heap.size + 1 + 1, 0, none⟩)] (enters_of Tryz.func73 (by kernel_rfl) rfl) A c T (unbal ws) w3 hl ((h.below B3.out).more B3.out.size) (fun x W A1 A2 c1 c2 hx hq s1 s2 l1 l2 => by
    obtain ⟨t1, t2⟩ := net_sets hok hx
    have b1 := setB_len t1 (by omega)
    have b2 := setB_len t2 (by omega)
    exact (unbal_any x A1 A2 c1 c2 B d (w.heap.size + 1) (w.heap.size + 1 + 1) ws W s1 s2 ((hW.below (B3.out.trans (hq.mono B3.out.size))).more (B3.out.trans (hq.mono B3.out.size)).size) (by omega) (by omega) (by omega) (X2.out.below hq X2.out.lt) (X3.out.below hq X3.out.lt)
      (fun y hy => by have := setB_mem t1 y hy; omega) (fun y hy => by have := setB_mem t2 y hy; omega) hwr).mono (fun e w' ⟨he, hb⟩ => ⟨he, hq.trans (hb.mono hq.size)⟩)))
  have hi := hid (show invN T ws = !T.any (unbal ws) from rfl)
  clear h hW hok hwt hwl hwr
  unfold maxLen at hl
  generalize T.any (unbal ws) = r at *
  go_enter Tryz.func24, Tryz.ntmps24
  go_upto_region 2 with fail
  rw [← hw3]
  clear hw3
  have x1 := X1.out.cell 1; have xz := X1.out.lt
  simp at x1
  go_wp2_with fail
  refine HC.out.mono ?_
  rintro e w4 ⟨rfl, hB⟩
  have BW := hid (B3.out.trans (hB.mono B3.out.size))
  clear hB
  go_wp2_with fail
  go_ret
  exact ⟨ret_bool (by rw [hi.out]), BW.out⟩
end Go.Proofs.YteljfpcmpdpehaaGreatDoor
