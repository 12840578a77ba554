
/- Table: the laws' small (printed by gen_tabu.py behind its own head). -/
import Derived.Test.YtdjjhflhdhihcaaTabT
set_option linter.unusedSimpArgs false
set_option linter.unusedVariables false
namespace Go.Proofs.Ytdjjhflhdhihcaa
open Go.RowKit Go.IntWalk Go.Shelf

theorem i012 : ∀ x ∈ ([0, 1, 2] : List Int), I64 x := fun x hx => by simp at hx; rcases hx with rfl | rfl | rfl <;> exact i64s _ (by omega)
theorem exN_ok : ∀ x ∈ ([(1, 4, 1), (2, -1, 0)] : List Row), rwRK.ok x := fun x hx => by
  simp at hx
  rcases hx with rfl | rfl <;> exact ⟨i64s _ (by simp), i64s _ (by simp), i64s _ (by simp)⟩
theorem ex_ok : ∀ x ∈ exOne ++ exTwo ++ exThree, rwRK.ok x := fun x hx => by
  simp only [exOne, exTwo, exThree, List.cons_append, List.nil_append, List.mem_cons, List.not_mem_nil, or_false] at hx
  rcases hx with rfl | rfl | rfl | rfl | rfl | rfl | rfl | rfl <;> exact ⟨i64s _ (by simp), i64s _ (by simp), i64s _ (by simp)⟩
theorem slr_tail1 {w : World} {b : Nat} {x : Row} {l : List Row} (h : SlR w w.heap.size (some ⟨b, 0, none⟩) (x :: l)) : SlR w w.heap.size (some ⟨b, 3, none⟩) l := by
  intro k y hy
  obtain ⟨b', off, es, hA, hb, hs, hc, hr⟩ := h (k + 1) y (by simpa using hy)
  injection hA with hA
  injection hA with e1 e2 _
  subst e1 e2
  refine ⟨b, 3, es, rfl, hb, hs, fun j u hu => ?_, hr⟩
  have h3 : Rep.size Row = 3 := rfl
  have := hc j u hu
  rw [h3] at this ⊢
  rwa [show 0 + (k + 1) * 3 + j = 3 + k * 3 + j by omega] at this
set_option maxRecDepth 100000 in
set_option maxHeartbeats 8000000 in
theorem tsmall_any (w : World) : Calls Try.prog 6 #[] w fun e w' => e = .returned (.bool true) ∧ Below w.heap.size w w' := by
  have HE := hid (example_any w)
  go_enter Try.func6, Try.ntmps6
  go_wp2_with fail
  refine HE.out.mono ?_
  rintro e w1 ⟨Ag, Am, rfl, hG, hB⟩
  have HG := hid hG; have B1 := hid hB
  clear hG hB HE
  obtain ⟨w2, hw2⟩ : ∃ w2, w2 = (((w1.alloc (Obj.cells #[.slice Ag 3 3, .slice Am 3 3] 25)).alloc (Obj.cells #[.int .i64 0, .int .i64 5, .int .i64 2, .int .i64 1, .int .i64 4, .int .i64 1, .int .i64 2, .int .i64 (-1), .int .i64 0] 33)).alloc (Obj.cells #[.int .i64 0, .int .i64 5, .int .i64 1, .int .i64 1, .int .i64 4, .int .i64 1, .int .i64 2, .int .i64 (-1), .int .i64 0] 33)).alloc (Obj.cells #[.int .i64 0, .int .i64 5, .int .i64 2, .int .i64 2, .int .i64 (-1), .int .i64 0] 33) := ⟨_, rfl⟩
  have b2 := hid (show Below w1.heap.size w1 w2 by rw [hw2]; (repeat (first | exact Below.refl _ _ | assumption | refine below_drewN ?_ _ | refine Below.drew ?_ | refine Below.alloc ?_ (by (try simp); (try omega)) _ | refine Below.setCell ?_ (by (try simp); (try omega)) _)))
  have X2 := hid (show Blk w2 w1.heap.size 25 #[.slice Ag 3 3, .slice Am 3 3] by rw [hw2]; exact (((Blk.new w1 _ _).alloc _).alloc _).alloc _)
  have Y1 := show Blk w2 (w1.heap.size + 1) 33 #[.int .i64 0, .int .i64 5, .int .i64 2, .int .i64 1, .int .i64 4, .int .i64 1, .int .i64 2, .int .i64 (-1), .int .i64 0] by rw [hw2]; exact ((Blk.new_at (by simp)).alloc _).alloc _
  have Y2 := show Blk w2 (w1.heap.size + 1 + 1) 33 #[.int .i64 0, .int .i64 5, .int .i64 1, .int .i64 1, .int .i64 4, .int .i64 1, .int .i64 2, .int .i64 (-1), .int .i64 0] by rw [hw2]; exact (Blk.new_at (by simp)).alloc _
  have Y3 := show Blk w2 (w1.heap.size + 1 + 1 + 1) 33 #[.int .i64 0, .int .i64 5, .int .i64 2, .int .i64 2, .int .i64 (-1), .int .i64 0] by rw [hw2]; exact Blk.new_at (by simp)
  have S1 := hid (rwRK.blk (l := exOne) Y1 (fun x hx => ex_ok x (by simp [hx])))
  have S2 := hid (rwRK.blk (l := exTwo) Y2 (fun x hx => ex_ok x (by simp [hx])))
  have S3 := hid (rwRK.blk (l := exThree) Y3 (fun x hx => ex_ok x (by simp [hx])))
  have S1t := hid (rwRK.blk (l := exOne) Y1 (fun x hx => ex_ok x (by simp [hx])))
  have B2 := hid (B1.out.trans (b2.out.mono B1.out.size))
  have HG2 := hid (HG.out.to b2.out)
  have HCK := hid (fun (W : World) (hW : Below w2.heap.size w2 W) (A : Option Addr) (c : Nat) (rows : List Row) (hl : rows.length ≤ 1000000) (hs : SlR w2 w2.heap.size A rows) => check_any Ag Am A 3 3 c exG rows W (HG2.out.to hW) exG_right exG_ok hl ((hs.below hW).more hW.size))
  have C1 := hid (show ∀ W, Below w2.heap.size w2 W → Calls Try.prog 8 #[.agg #[.slice Ag 3 3, .slice Am 3 3], .slice (some ⟨w1.heap.size + 1, 0, none⟩) 3 3] W fun e w' => e = .returned (.tuple #[.int .i64 (-1), .int .i64 0]) ∧ Below W.heap.size W w' from fun W hW => (HCK.out W hW _ 3 exOne (by decide) S1.out).mono fun e w' ⟨k, c, h1, h2, h3⟩ => by obtain ⟨rfl, rfl⟩ := exOne_chk h2; exact ⟨h1, h3⟩)
  have C2 := hid (show ∀ W, Below w2.heap.size w2 W → Calls Try.prog 8 #[.agg #[.slice Ag 3 3, .slice Am 3 3], .slice (some ⟨w1.heap.size + 1 + 1, 0, none⟩) 3 3] W fun e w' => e = .returned (.tuple #[.int .i64 0, .int .i64 25]) ∧ Below W.heap.size W w' from fun W hW => (HCK.out W hW _ 3 exTwo (by decide) S2.out).mono fun e w' ⟨k, c, h1, h2, h3⟩ => by obtain ⟨rfl, rfl⟩ := exTwo_chk h2; exact ⟨h1, h3⟩)
  have C3 := hid (show ∀ W, Below w2.heap.size w2 W → Calls Try.prog 8 #[.agg #[.slice Ag 3 3, .slice Am 3 3], .slice (some ⟨w1.heap.size + 1 + 1 + 1, 0, none⟩) 2 2] W fun e w' => e = .returned (.tuple #[.int .i64 0, .int .i64 25]) ∧ Below W.heap.size W w' from fun W hW => (HCK.out W hW _ 2 exThree (by decide) S3.out).mono fun e w' ⟨k, c, h1, h2, h3⟩ => by obtain ⟨rfl, rfl⟩ := exThree_chk h2; exact ⟨h1, h3⟩)
  clear Y1 Y2 Y3 S2 S3 HCK b2
  go_upto_region 5 with fail
  rw [← hw2]
  clear hw2
  have x0 := X2.out.cell 0; have x1 := X2.out.cell 1; have xz := X2.out.lt
  simp at x0 x1
  go_wp2_with fail
  refine (C1.out _ (Below.refl _ _)).mono ?_
  rintro e w3 ⟨rfl, hB⟩
  have B3 := hid hB
  have X3 := hid (X2.out.below hB X2.out.lt)
  clear hB C1 x0 x1 xz
  have x0 := X3.out.cell 0; have x1 := X3.out.cell 1; have xz := X3.out.lt
  simp at x0 x1
  go_wp2_with fail
  refine (C2.out _ B3.out).mono ?_
  rintro e w4 ⟨rfl, hB⟩
  have B4 := hid (B3.out.trans (hB.mono B3.out.size))
  have X4 := hid (X3.out.below hB X3.out.lt)
  clear hB C2 x0 x1 xz B3 X3
  have x0 := X4.out.cell 0; have x1 := X4.out.cell 1; have xz := X4.out.lt
  simp at x0 x1
  go_wp2_with fail
  refine (C3.out _ B4.out).mono ?_
  rintro e w7 ⟨rfl, hB⟩
  have B47 := hid (B4.out.trans (hB.mono B4.out.size))
  have X7 := hid (X4.out.below hB X4.out.lt)
  have B7 := hid (B2.out.trans (B47.out.mono B2.out.size))
  have HG7 := hid (HG2.out.to B47.out)
  have S7 := hid ((S1.out.below B47.out).more B47.out.size)
  have S7t := hid (show SlR w7 w7.heap.size (some ⟨w1.heap.size + 1, 3, none⟩) ([(1, 4, 1), (2, -1, 0)] : List Row) from slr_tail1 S7.out)
  clear hB C3 x0 x1 xz B4 X4 HG2 S1 S1t X2
  have x0 := X7.out.cell 0; have x1 := X7.out.cell 1; have xz := X7.out.lt
  simp at x0 x1
  have HFOL := hid (show ∀ W, Below w7.heap.size w7 W → ∀ gb, Blk W gb 3 #[.int .i64 0, .int .i64 7] → Calls Try.prog 9 #[.agg #[.slice Ag 3 3, .slice Am 3 3], .slice (some ⟨w1.heap.size + 1, 0, none⟩) 3 3, .int .i64 0, .slice (some ⟨gb, 0, none⟩) 2 2] W fun e w' => ∃ v, e = .returned v ∧ (OwnI w' W.heap.size v [0, 1, 2] ∧ Below W.heap.size W w') from fun W hW gb hb =>
    (follow_any Ag Am (some ⟨w1.heap.size + 1, 0, none⟩) (some ⟨gb, 0, none⟩) 3 3 3 2 exG exOne 0 [0, 7] W (HG7.out.to hW) exG_right exG_ok (by decide) exOne_asc ((S7.out.below hW).more hW.size) (by decide) (slr_ints hb (fun x hx => by simp at hx; rcases hx with rfl | rfl <;> exact i64s _ (by omega)))).mono fun e w' ⟨v, h1, h2, h3⟩ => ⟨v, h1, by rw [← exOne_fol]; exact h2, h3⟩)
  have HSAM := hid (show ∀ (W : World) (A : Option Addr) (c gb : Nat), SlR W W.heap.size A ([0, 1, 2] : List Int) → Blk W gb 3 #[.int .i64 0, .int .i64 1, .int .i64 2] → Calls Try.prog 13 #[.slice A 3 c, .slice (some ⟨gb, 0, none⟩) 3 3] W fun e w' => e = .returned (.bool true) ∧ Below W.heap.size W w' from fun W A c gb hs hb => sameI_any A (some ⟨gb, 0, none⟩) c 3 [0, 1, 2] [0, 1, 2] W (by decide) (by decide) hs (slr_ints hb i012))
  have HNDS := hid (show ∀ W, Below w7.heap.size w7 W → Calls Try.prog 12 #[.agg #[.slice Ag 3 3, .slice Am 3 3], .slice (some ⟨w1.heap.size + 1, 0, none⟩) 3 3, .int .i64 1] W fun e w' => ∃ v, e = .returned v ∧ (rwRK.Own w' W.heap.size v [(1, 4, 1), (2, -1, 0)] ∧ Below W.heap.size W w') from fun W hW =>
    (needs_any Ag Am (some ⟨w1.heap.size + 1, 0, none⟩) 3 3 3 exG exOne 1 W (HG7.out.to hW) exG_right exG_ok (by decide) exOne_asc ((S7.out.below hW).more hW.size) (i64s _ (by omega))).mono fun e w' ⟨v, l, h1, h2, h3, h4⟩ => ⟨v, h1, by rw [← exOne_needs h3]; exact h2, h4⟩)
  have HSRW := hid (show ∀ W, Below w7.heap.size w7 W → ∀ (A : Option Addr) (c : Nat), SlR W W.heap.size A ([(1, 4, 1), (2, -1, 0)] : List Row) → Calls Try.prog 15 #[.slice A 2 c, .slice (some ⟨w1.heap.size + 1, 3, none⟩) 2 2] W fun e w' => e = .returned (.bool true) ∧ Below W.heap.size W w' from fun W hW A c hs => samerows_any A (some ⟨w1.heap.size + 1, 3, none⟩) c 2 [(1, 4, 1), (2, -1, 0)] [(1, 4, 1), (2, -1, 0)] W (by decide) (by decide) hs ((S7t.out.below hW).more hW.size))
  have HSF := hid (fun (wq : World) (hq : Below w7.heap.size w7 wq) => And.intro ((bcell hq _ _ xz).trans x0) ((bcell hq _ _ xz).trans x1))
  have BD := hid ((Below.refl w7.heap.size w7).drew)
  clear x0 x1 B2 B47 HG HG7 S7 S7t
  go_upto_region 8 with fail
  refine wpIn_wide.1 (wpIn_region_S (n := 0) (fun wq => Below w7.heap.size w7 wq) [] (by kernel_rfl) BD.out (fun hHeld => ?_))
  generalize w7.drew = wd at *
  refine wpAnyG_pure 0 (v := ?_) (fun _ => trivial) (by simp only [List.getElem?_toArray, List.getElem?_cons_succ, List.getElem?_cons_zero]; rfl) (by kernel_rfl) (fun _ _ _ _ _ h => h) ⟨(by rfl), (by intro c h; cases h), ?_⟩ hHeld ?_
  rotate_left
  focus (intro wS hSw; (try replace hSw := HSF.out wS hSw); (try dsimp only at hSw); go_simp; (try with_reducible rfl))
  (try simp only [Act.put, List.setIfInBounds_toArray, List.set_cons_zero, List.set_cons_succ])
  refine wpAnyG_pure 1 (v := ?_) (fun _ => trivial) (by simp only [List.getElem?_toArray, List.getElem?_cons_succ, List.getElem?_cons_zero]; rfl) (by kernel_rfl) (fun _ _ _ _ _ h => h) ⟨(by rfl), (by intro c h; cases h), ?_⟩ hHeld ?_
  rotate_left
  focus (intro wS hSw; (try replace hSw := HSF.out wS hSw); (try dsimp only at hSw); go_simp; (try with_reducible rfl))
  (try simp only [Act.put, List.setIfInBounds_toArray, List.set_cons_zero, List.set_cons_succ])
  refine wpAnyG_pure 2 (v := ?_) (fun _ => trivial) (by simp only [List.getElem?_toArray, List.getElem?_cons_succ, List.getElem?_cons_zero]; rfl) (by kernel_rfl) (fun _ _ _ _ _ h => h) ⟨(by rfl), (by intro c h; cases h), ?_⟩ hHeld ?_
  rotate_left
  focus (intro wS hSw; (try replace hSw := HSF.out wS hSw); (try dsimp only at hSw); go_simp; (try with_reducible rfl))
  (try simp only [Act.put, List.setIfInBounds_toArray, List.set_cons_zero, List.set_cons_succ])
  refine wpAnyG_pure 3 (v := ?_) (fun _ => trivial) (by simp only [List.getElem?_toArray, List.getElem?_cons_succ, List.getElem?_cons_zero]; rfl) (by kernel_rfl) (fun _ _ _ _ _ h => h) ⟨(by rfl), (by intro c h; cases h), ?_⟩ hHeld ?_
  rotate_left
  focus (intro wS hSw; (try replace hSw := HSF.out wS hSw); (try dsimp only at hSw); go_simp; (try with_reducible rfl))
  (try simp only [Act.put, List.setIfInBounds_toArray, List.set_cons_zero, List.set_cons_succ])
  refine wpAnyG_pure 4 (v := ?_) (fun _ => trivial) (by simp only [List.getElem?_toArray, List.getElem?_cons_succ, List.getElem?_cons_zero]; rfl) (by kernel_rfl) (fun _ _ _ _ _ h => h) ⟨(by rfl), (by intro c h; cases h), ?_⟩ hHeld ?_
  rotate_left
  focus (intro wS hSw; (try replace hSw := HSF.out wS hSw); (try dsimp only at hSw); go_simp; (try with_reducible rfl))
  (try simp only [Act.put, List.setIfInBounds_toArray, List.set_cons_zero, List.set_cons_succ])
  refine wpAnyG_pure 5 (v := ?_) (fun _ => trivial) (by simp only [List.getElem?_toArray, List.getElem?_cons_succ, List.getElem?_cons_zero]; rfl) (by kernel_rfl) (fun _ _ _ _ _ h => h) ⟨(by rfl), (by intro c h; cases h), ?_⟩ hHeld ?_
  rotate_left
  focus (intro wS hSw; (try replace hSw := HSF.out wS hSw); (try dsimp only at hSw); go_simp; (try with_reducible rfl))
  (try simp only [Act.put, List.setIfInBounds_toArray, List.set_cons_zero, List.set_cons_succ])
  refine wpAnyG_pure 6 (v := ?_) (fun _ => trivial) (by simp only [List.getElem?_toArray, List.getElem?_cons_succ, List.getElem?_cons_zero]; rfl) (by kernel_rfl) (fun _ _ _ _ _ h => h) ⟨(by rfl), (by intro c h; cases h), ?_⟩ hHeld ?_
  rotate_left
  focus (intro wS hSw; (try replace hSw := HSF.out wS hSw); (try dsimp only at hSw); go_simp; (try with_reducible rfl))
  (try simp only [Act.put, List.setIfInBounds_toArray, List.set_cons_zero, List.set_cons_succ])
  refine wpAnyG_pure 7 (v := ?_) (fun _ => trivial) (by simp only [List.getElem?_toArray, List.getElem?_cons_succ, List.getElem?_cons_zero]; rfl) (by kernel_rfl) (fun _ _ _ _ _ h => h) ⟨(by rfl), (by intro c h; cases h), ?_⟩ hHeld ?_
  rotate_left
  focus (intro wS hSw; (try replace hSw := HSF.out wS hSw); (try dsimp only at hSw); go_simp; (try with_reducible rfl))
  (try simp only [Act.put, List.setIfInBounds_toArray, List.set_cons_zero, List.set_cons_succ])
  refine wpAnyG_pure 8 (v := ?_) (fun _ => trivial) (by simp only [List.getElem?_toArray, List.getElem?_cons_succ, List.getElem?_cons_zero]; rfl) (by kernel_rfl) (fun _ _ _ _ _ h => h) ⟨(by rfl), (by intro c h; cases h), ?_⟩ hHeld ?_
  rotate_left
  focus (intro wS hSw; (try replace hSw := HSF.out wS hSw); (try dsimp only at hSw); go_simp; (try with_reducible rfl))
  (try simp only [Act.put, List.setIfInBounds_toArray, List.set_cons_zero, List.set_cons_succ])
  refine wpAnyG_pure 9 (v := ?_) (fun _ => trivial) (by simp only [List.getElem?_toArray, List.getElem?_cons_succ, List.getElem?_cons_zero]; rfl) (by kernel_rfl) (fun _ _ _ _ _ h => h) ⟨(by rfl), (by intro c h; cases h), ?_⟩ hHeld ?_
  rotate_left
  focus (intro wS hSw; (try replace hSw := HSF.out wS hSw); (try dsimp only at hSw); go_simp; (try with_reducible rfl))
  (try simp only [Act.put, List.setIfInBounds_toArray, List.set_cons_zero, List.set_cons_succ])
  refine wpAnyG_pure 10 (v := ?_) (fun _ => trivial) (by simp only [List.getElem?_toArray, List.getElem?_cons_succ, List.getElem?_cons_zero]; rfl) (by kernel_rfl) (fun _ _ _ _ _ h => h) ⟨(by rfl), (by intro c h; cases h), ?_⟩ hHeld ?_
  rotate_left
  focus (intro wS hSw; (try replace hSw := HSF.out wS hSw); (try dsimp only at hSw); go_simp; (try with_reducible rfl))
  (try simp only [Act.put, List.setIfInBounds_toArray, List.set_cons_zero, List.set_cons_succ])
  refine wpAnyG_pure 11 (v := ?_) (fun _ => trivial) (by simp only [List.getElem?_toArray, List.getElem?_cons_succ, List.getElem?_cons_zero]; rfl) (by kernel_rfl) (fun _ _ _ _ _ h => h) ⟨(by rfl), (by intro c h; cases h), ?_⟩ hHeld ?_
  rotate_left
  focus (intro wS hSw; (try replace hSw := HSF.out wS hSw); (try dsimp only at hSw); go_simp; (try with_reducible rfl))
  (try simp only [Act.put, List.setIfInBounds_toArray, List.set_cons_zero, List.set_cons_succ])
  refine wpAnyG_pure 12 (v := ?_) (fun _ => trivial) (by simp only [List.getElem?_toArray, List.getElem?_cons_succ, List.getElem?_cons_zero]; rfl) (by kernel_rfl) (fun _ _ _ _ _ h => h) ⟨(by rfl), (by intro c h; cases h), ?_⟩ hHeld ?_
  rotate_left
  focus (intro wS hSw; (try replace hSw := HSF.out wS hSw); (try dsimp only at hSw); go_simp; (try with_reducible rfl))
  (try simp only [Act.put, List.setIfInBounds_toArray, List.set_cons_zero, List.set_cons_succ])
  refine wpAnyG_pure 13 (v := ?_) (fun _ => trivial) (by simp only [List.getElem?_toArray, List.getElem?_cons_succ, List.getElem?_cons_zero]; rfl) (by kernel_rfl) (fun _ _ _ _ _ h => h) ⟨(by rfl), (by intro c h; cases h), ?_⟩ hHeld ?_
  rotate_left
  focus (intro wS hSw; (try replace hSw := HSF.out wS hSw); (try dsimp only at hSw); go_simp; (try with_reducible rfl))
  (try simp only [Act.put, List.setIfInBounds_toArray, List.set_cons_zero, List.set_cons_succ])
  refine wpAnyG_pure 14 (v := ?_) (fun _ => trivial) (by simp only [List.getElem?_toArray, List.getElem?_cons_succ, List.getElem?_cons_zero]; rfl) (by kernel_rfl) (fun _ _ _ _ _ h => h) ⟨(by rfl), (by intro c h; cases h), ?_⟩ hHeld ?_
  rotate_left
  focus (intro wS hSw; (try replace hSw := HSF.out wS hSw); (try dsimp only at hSw); go_simp; (try with_reducible rfl))
  (try simp only [Act.put, List.setIfInBounds_toArray, List.set_cons_zero, List.set_cons_succ])
  refine wpAnyG_pure 15 (v := ?_) (fun _ => trivial) (by simp only [List.getElem?_toArray, List.getElem?_cons_succ, List.getElem?_cons_zero]; rfl) (by kernel_rfl) (fun _ _ _ _ _ h => h) ⟨(by rfl), (by intro c h; cases h), ?_⟩ hHeld ?_
  rotate_left
  focus (intro wS hSw; (try replace hSw := HSF.out wS hSw); (try dsimp only at hSw); go_simp; (try with_reducible rfl))
  (try simp only [Act.put, List.setIfInBounds_toArray, List.set_cons_zero, List.set_cons_succ])
  refine wpAnyG_pure 16 (v := ?_) (fun _ => trivial) (by simp only [List.getElem?_toArray, List.getElem?_cons_succ, List.getElem?_cons_zero]; rfl) (by kernel_rfl) (fun _ _ _ _ _ h => h) ⟨(by rfl), (by intro c h; cases h), ?_⟩ hHeld ?_
  rotate_left
  focus (intro wS hSw; (try replace hSw := HSF.out wS hSw); (try dsimp only at hSw); go_simp; (try with_reducible rfl))
  (try simp only [Act.put, List.setIfInBounds_toArray, List.set_cons_zero, List.set_cons_succ])
  refine wpAnyG_pure 17 (v := ?_) (fun _ => trivial) (by simp only [List.getElem?_toArray, List.getElem?_cons_succ, List.getElem?_cons_zero]; rfl) (by kernel_rfl) (fun _ _ _ _ _ h => h) ⟨(by rfl), (by intro c h; cases h), ?_⟩ hHeld ?_
  rotate_left
  focus (intro wS hSw; (try replace hSw := HSF.out wS hSw); (try dsimp only at hSw); go_simp; (try with_reducible rfl))
  (try simp only [Act.put, List.setIfInBounds_toArray, List.set_cons_zero, List.set_cons_succ])
  refine wpAnyG_pure 18 (v := ?_) (fun _ => trivial) (by simp only [List.getElem?_toArray, List.getElem?_cons_succ, List.getElem?_cons_zero]; rfl) (by kernel_rfl) (fun _ _ _ _ _ h => h) ⟨(by rfl), (by intro c h; cases h), ?_⟩ hHeld ?_
  rotate_left
  focus (intro wS hSw; (try replace hSw := HSF.out wS hSw); (try dsimp only at hSw); go_simp; (try with_reducible rfl))
  (try simp only [Act.put, List.setIfInBounds_toArray, List.set_cons_zero, List.set_cons_succ])
  refine wpAnyG_pure 19 (v := ?_) (fun _ => trivial) (by simp only [List.getElem?_toArray, List.getElem?_cons_succ, List.getElem?_cons_zero]; rfl) (by kernel_rfl) (fun _ _ _ _ _ h => h) ⟨(by rfl), (by intro c h; cases h), ?_⟩ hHeld ?_
  rotate_left
  focus (intro wS hSw; (try replace hSw := HSF.out wS hSw); (try dsimp only at hSw); go_simp; (try with_reducible rfl))
  (try simp only [Act.put, List.setIfInBounds_toArray, List.set_cons_zero, List.set_cons_succ])
  refine wpAnyG_pure 20 (v := ?_) (fun _ => trivial) (by simp only [List.getElem?_toArray, List.getElem?_cons_succ, List.getElem?_cons_zero]; rfl) (by kernel_rfl) (fun _ _ _ _ _ h => h) ⟨(by rfl), (by intro c h; cases h), ?_⟩ hHeld ?_
  rotate_left
  focus (intro wS hSw; (try replace hSw := HSF.out wS hSw); (try dsimp only at hSw); go_simp; (try with_reducible rfl))
  (try simp only [Act.put, List.setIfInBounds_toArray, List.set_cons_zero, List.set_cons_succ])
  refine wpAnyG_pure 21 (v := ?_) (fun _ => trivial) (by simp only [List.getElem?_toArray, List.getElem?_cons_succ, List.getElem?_cons_zero]; rfl) (by kernel_rfl) (fun _ _ _ _ _ h => h) ⟨(by rfl), (by intro c h; cases h), ?_⟩ hHeld ?_
  rotate_left
  focus (intro wS hSw; (try replace hSw := HSF.out wS hSw); (try dsimp only at hSw); go_simp; (try with_reducible rfl))
  (try simp only [Act.put, List.setIfInBounds_toArray, List.set_cons_zero, List.set_cons_succ])
  refine wpAnyG_pure 22 (v := ?_) (fun _ => trivial) (by simp only [List.getElem?_toArray, List.getElem?_cons_succ, List.getElem?_cons_zero]; rfl) (by kernel_rfl) (fun _ _ _ _ _ h => h) ⟨(by rfl), (by intro c h; cases h), ?_⟩ hHeld ?_
  rotate_left
  focus (intro wS hSw; (try replace hSw := HSF.out wS hSw); (try dsimp only at hSw); go_simp; (try with_reducible rfl))
  (try simp only [Act.put, List.setIfInBounds_toArray, List.set_cons_zero, List.set_cons_succ])
  refine wpAnyG_take 23 (v := ?_) (fun _ => trivial) (by simp only [List.getElem?_toArray, List.getElem?_cons_succ, List.getElem?_cons_zero]; rfl) (by kernel_rfl) (fun _ _ _ _ _ h => h) ⟨(by rfl), (by intro c h; cases h), ?_⟩ hHeld ?_
  rotate_left
  focus (intro wS hSw; (try replace hSw := HSF.out wS hSw); (try dsimp only at hSw); go_simp; (try with_reducible rfl))
  (try simp only [Act.put, List.setIfInBounds_toArray, List.set_cons_zero, List.set_cons_succ])
  refine wpAnyG_pure 24 (v := ?_) (fun _ => trivial) (by simp only [List.getElem?_toArray, List.getElem?_cons_succ, List.getElem?_cons_zero]; rfl) (by kernel_rfl) (fun _ _ _ _ _ h => h) ⟨(by rfl), (by intro c h; cases h), ?_⟩ hHeld ?_
  rotate_left
  focus (intro wS hSw; (try replace hSw := HSF.out wS hSw); (try dsimp only at hSw); go_simp; (try with_reducible rfl))
  (try simp only [Act.put, List.setIfInBounds_toArray, List.set_cons_zero, List.set_cons_succ])
  refine wpAnyS_ready [25, 27] (by kernel_rfl) (by simp) (AllReadyS.consG (by simp only [List.getElem?_toArray, List.getElem?_cons_succ, List.getElem?_cons_zero]; rfl) (by rfl) (fun K hK => ?_) (AllReadyS.consG (by simp only [List.getElem?_toArray, List.getElem?_cons_succ, List.getElem?_cons_zero]; rfl) (by rfl) (fun K hK => ?_) AllReadyS.nil))
  · --25
    go_simp
    have B25 := hid (BD.out.alloc BD.out.size (Obj.cells #[.int .i64 0, .int .i64 7] 3))
    have X25 := hid (Blk.new wd 3 #[.int .i64 0, .int .i64 7])
    refine hK.out _ _ B25.out ?_
    clear hK K
    (try simp only [Act.put, List.setIfInBounds_toArray, List.set_cons_zero, List.set_cons_succ])
    clear hHeld
    have hHeld := B25.out
    generalize wd.heap.size = g25 at *
    generalize (wd.alloc (Obj.cells #[.int .i64 0, .int .i64 7] 3)) = w25 at *
    refine wpAnyS_ready [26, 27] (by kernel_rfl) (by simp) (AllReadyS.consG (by simp only [List.getElem?_toArray, List.getElem?_cons_succ, List.getElem?_cons_zero]; rfl) (by rfl) (fun K hK => ?_) (AllReadyS.consG (by simp only [List.getElem?_toArray, List.getElem?_cons_succ, List.getElem?_cons_zero]; rfl) (by rfl) (fun K hK => ?_) AllReadyS.nil))
    · --26 then 27
      have HFo := hid (HFOL.out _ B25.out _ X25.out)
      refine callV (by intro c h; cases h) (by go_simp; try with_reducible rfl) HFo.out ?_
      intro vF w26 hx
      obtain ⟨ho26, hB26⟩ := hx
      have B26 := hid (B25.out.trans (hB26.mono B25.out.size))
      have OV := hid (show OwnI w26 0 vF [0, 1, 2] from own_base ho26 (Nat.zero_le _))
      refine hK.out _ _ B26.out ?_
      (try simp only [Act.put, List.setIfInBounds_toArray, List.set_cons_zero, List.set_cons_succ])
      clear hK K ho26 hB26 HFo
      clear hHeld
      have hHeld := B26.out
      refine wpAnyS_ready [27] (by kernel_rfl) (by simp) (AllReadyS.consG (by simp only [List.getElem?_toArray, List.getElem?_cons_succ, List.getElem?_cons_zero]; rfl) (by rfl) (fun K hK => ?_) AllReadyS.nil)
      go_simp
      have B27 := hid (B26.out.alloc B26.out.size (Obj.cells #[.int .i64 0, .int .i64 1, .int .i64 2] 3))
      have X27 := hid (Blk.new w26 3 #[.int .i64 0, .int .i64 1, .int .i64 2])
      refine hK.out _ _ B27.out ?_
      clear hK K
      (try simp only [Act.put, List.setIfInBounds_toArray, List.set_cons_zero, List.set_cons_succ])
      have OV2 := hid (OV.out.alloc (Obj.cells #[.int .i64 0, .int .i64 1, .int .i64 2] 3))
      clear OV
      have OV := hid OV2.out
      clear OV2
      clear hHeld
      have hHeld := B27.out
      generalize w26.heap.size = g27 at *
      generalize (w26.alloc (Obj.cells #[.int .i64 0, .int .i64 1, .int .i64 2] 3)) = w27 at *
      obtain ⟨AV, cV, rfl, -, -, hsv⟩ := OV.out.slr i012
      have SV := hid hsv
      clear hsv
      have HSa := hid (HSAM.out _ _ cV _ SV.out X27.out)
      refine wpAnyS_ready [28] (by kernel_rfl) (by simp) (AllReadyS.consG (by simp only [List.getElem?_toArray, List.getElem?_cons_succ, List.getElem?_cons_zero]; rfl) (by rfl) (fun K hK => ?_) AllReadyS.nil)
      refine callS (by intro c h; cases h) (by go_simp; try with_reducible rfl) HSa.out ?_
      intro w28 hBq
      have B28 := hid (B27.out.trans (hBq.mono B27.out.size))
      refine hK.out _ _ B28.out ?_
      (try simp only [Act.put, List.setIfInBounds_toArray, List.set_cons_zero, List.set_cons_succ])
      clear hK K hBq HSa SV OV
      clear hHeld
      have hHeld := B28.out
      refine wpAnyG_pure 29 (v := ?_) (fun _ => trivial) (by simp only [List.getElem?_toArray, List.getElem?_cons_succ, List.getElem?_cons_zero]; rfl) (by kernel_rfl) (fun _ _ _ _ _ h => h) ⟨(by rfl), (by intro c h; cases h), ?_⟩ hHeld ?_
      rotate_left
      focus (intro wS hSw; (try replace hSw := HSF.out wS hSw); (try dsimp only at hSw); go_simp; (try with_reducible rfl))
      (try simp only [Act.put, List.setIfInBounds_toArray, List.set_cons_zero, List.set_cons_succ])
      refine wpAnyG_pure 30 (v := ?_) (fun _ => trivial) (by simp only [List.getElem?_toArray, List.getElem?_cons_succ, List.getElem?_cons_zero]; rfl) (by kernel_rfl) (fun _ _ _ _ _ h => h) ⟨(by rfl), (by intro c h; cases h), ?_⟩ hHeld ?_
      rotate_left
      focus (intro wS hSw; (try replace hSw := HSF.out wS hSw); (try dsimp only at hSw); go_simp; (try with_reducible rfl))
      (try simp only [Act.put, List.setIfInBounds_toArray, List.set_cons_zero, List.set_cons_succ])
      refine wpAnyG_take 31 (v := ?_) (fun _ => trivial) (by simp only [List.getElem?_toArray, List.getElem?_cons_succ, List.getElem?_cons_zero]; rfl) (by kernel_rfl) (fun _ _ _ _ _ h => h) ⟨(by rfl), (by intro c h; cases h), ?_⟩ hHeld ?_
      rotate_left
      focus (intro wS hSw; (try replace hSw := HSF.out wS hSw); (try dsimp only at hSw); go_simp; (try with_reducible rfl))
      (try simp only [Act.put, List.setIfInBounds_toArray, List.set_cons_zero, List.set_cons_succ])
      refine wpAnyG_pure 32 (v := ?_) (fun _ => trivial) (by simp only [List.getElem?_toArray, List.getElem?_cons_succ, List.getElem?_cons_zero]; rfl) (by kernel_rfl) (fun _ _ _ _ _ h => h) ⟨(by rfl), (by intro c h; cases h), ?_⟩ hHeld ?_
      rotate_left
      focus (intro wS hSw; (try replace hSw := HSF.out wS hSw); (try dsimp only at hSw); go_simp; (try with_reducible rfl))
      (try simp only [Act.put, List.setIfInBounds_toArray, List.set_cons_zero, List.set_cons_succ])
      refine wpAnyG_pure 34 (v := ?_) (fun _ => trivial) (by simp only [List.getElem?_toArray, List.getElem?_cons_succ, List.getElem?_cons_zero]; rfl) (by kernel_rfl) (fun _ _ _ _ _ h => h) ⟨(by rfl), (by intro c h; cases h), ?_⟩ hHeld ?_
      rotate_left
      focus (intro wS hSw; (try replace hSw := HSF.out wS hSw); (try dsimp only at hSw); go_simp; (try with_reducible rfl))
      (try simp only [Act.put, List.setIfInBounds_toArray, List.set_cons_zero, List.set_cons_succ])
      refine wpAnyG_pure 35 (v := ?_) (fun _ => trivial) (by simp only [List.getElem?_toArray, List.getElem?_cons_succ, List.getElem?_cons_zero]; rfl) (by kernel_rfl) (fun _ _ _ _ _ h => h) ⟨(by rfl), (by intro c h; cases h), ?_⟩ hHeld ?_
      rotate_left
      focus (intro wS hSw; (try replace hSw := HSF.out wS hSw); (try dsimp only at hSw); go_simp; (try with_reducible rfl))
      (try simp only [Act.put, List.setIfInBounds_toArray, List.set_cons_zero, List.set_cons_succ])
      have HNe := hid (HNDS.out _ B28.out)
      refine wpAnyS_ready [33] (by kernel_rfl) (by simp) (AllReadyS.consG (by simp only [List.getElem?_toArray, List.getElem?_cons_succ, List.getElem?_cons_zero]; rfl) (by rfl) (fun K hK => ?_) AllReadyS.nil)
      refine callV (by intro c h; cases h) (by go_simp; try with_reducible rfl) HNe.out ?_
      intro vN w33 hx
      obtain ⟨ho33, hB33⟩ := hx
      have B33 := hid (B28.out.trans (hB33.mono B28.out.size))
      obtain ⟨AN, cN, rfl, -, -, hsn⟩ := RK.Own.slr ho33 exN_ok
      have SN := hid hsn
      refine hK.out _ _ B33.out ?_
      (try simp only [Act.put, List.setIfInBounds_toArray, List.set_cons_zero, List.set_cons_succ])
      clear hK K ho33 hB33 hsn HNe
      clear hHeld
      have hHeld := B33.out
      have HSr := hid (HSRW.out _ B33.out AN cN SN.out)
      refine wpAnyS_ready [36] (by kernel_rfl) (by simp) (AllReadyS.consG (by simp only [List.getElem?_toArray, List.getElem?_cons_succ, List.getElem?_cons_zero]; rfl) (by rfl) (fun K hK => ?_) AllReadyS.nil)
      refine callS (by intro c h; cases h) (by go_simp; try with_reducible rfl) HSr.out ?_
      intro w36 hBq
      have B36 := hid (B33.out.trans (hBq.mono B33.out.size))
      refine hK.out _ _ B36.out ?_
      (try simp only [Act.put, List.setIfInBounds_toArray, List.set_cons_zero, List.set_cons_succ])
      clear hK K hBq HSr SN
      clear hHeld
      have hHeld := B36.out
      refine wpAnyG_pure 37 (v := ?_) (fun _ => trivial) (by simp only [List.getElem?_toArray, List.getElem?_cons_succ, List.getElem?_cons_zero]; rfl) (by kernel_rfl) (fun _ _ _ _ _ h => h) ⟨(by rfl), (by intro c h; cases h), ?_⟩ hHeld ?_
      rotate_left
      focus (intro wS hSw; (try replace hSw := HSF.out wS hSw); (try dsimp only at hSw); go_simp; (try with_reducible rfl))
      (try simp only [Act.put, List.setIfInBounds_toArray, List.set_cons_zero, List.set_cons_succ])
      refine wpAnyG_pure 38 (v := ?_) (fun _ => trivial) (by simp only [List.getElem?_toArray, List.getElem?_cons_succ, List.getElem?_cons_zero]; rfl) (by kernel_rfl) (fun _ _ _ _ _ h => h) ⟨(by rfl), (by intro c h; cases h), ?_⟩ hHeld ?_
      rotate_left
      focus (intro wS hSw; (try replace hSw := HSF.out wS hSw); (try dsimp only at hSw); go_simp; (try with_reducible rfl))
      (try simp only [Act.put, List.setIfInBounds_toArray, List.set_cons_zero, List.set_cons_succ])
      refine wpAnyS_done (by kernel_rfl) ?_
      have BZ := hid (B7.out.trans (B36.out.mono B7.out.size))
      clear hHeld HSF
      as_aux_lemma =>
        go_wp2_with fail
        go_ret
        exact ⟨rfl, BZ.out⟩
    · --27 then 26
      go_simp
      have B27 := hid (B25.out.alloc B25.out.size (Obj.cells #[.int .i64 0, .int .i64 1, .int .i64 2] 3))
      have X27 := hid (Blk.new w25 3 #[.int .i64 0, .int .i64 1, .int .i64 2])
      refine hK.out _ _ B27.out ?_
      clear hK K
      (try simp only [Act.put, List.setIfInBounds_toArray, List.set_cons_zero, List.set_cons_succ])
      have X25b := hid (X25.out.alloc (Obj.cells #[.int .i64 0, .int .i64 1, .int .i64 2] 3))
      clear hHeld
      have hHeld := B27.out
      generalize w25.heap.size = g27 at *
      generalize (w25.alloc (Obj.cells #[.int .i64 0, .int .i64 1, .int .i64 2] 3)) = w27 at *
      refine wpAnyS_ready [26] (by kernel_rfl) (by simp) (AllReadyS.consG (by simp only [List.getElem?_toArray, List.getElem?_cons_succ, List.getElem?_cons_zero]; rfl) (by rfl) (fun K hK => ?_) AllReadyS.nil)
      have HFo := hid (HFOL.out _ B27.out _ X25b.out)
      refine callV (by intro c h; cases h) (by go_simp; try with_reducible rfl) HFo.out ?_
      intro vF w26 hx
      obtain ⟨ho26, hB26⟩ := hx
      have B26 := hid (B27.out.trans (hB26.mono B27.out.size))
      have OV := hid (show OwnI w26 0 vF [0, 1, 2] from own_base ho26 (Nat.zero_le _))
      have X27b := hid (X27.out.below hB26 X27.out.lt)
      refine hK.out _ _ B26.out ?_
      (try simp only [Act.put, List.setIfInBounds_toArray, List.set_cons_zero, List.set_cons_succ])
      clear hK K ho26 hB26 HFo X27 X25 X25b
      clear hHeld
      have hHeld := B26.out
      obtain ⟨AV, cV, rfl, -, -, hsv⟩ := OV.out.slr i012
      have SV := hid hsv
      clear hsv
      have HSa := hid (HSAM.out _ _ cV _ SV.out X27b.out)
      refine wpAnyS_ready [28] (by kernel_rfl) (by simp) (AllReadyS.consG (by simp only [List.getElem?_toArray, List.getElem?_cons_succ, List.getElem?_cons_zero]; rfl) (by rfl) (fun K hK => ?_) AllReadyS.nil)
      refine callS (by intro c h; cases h) (by go_simp; try with_reducible rfl) HSa.out ?_
      intro w28 hBq
      have B28 := hid (B26.out.trans (hBq.mono B26.out.size))
      refine hK.out _ _ B28.out ?_
      (try simp only [Act.put, List.setIfInBounds_toArray, List.set_cons_zero, List.set_cons_succ])
      clear hK K hBq HSa SV OV
      clear hHeld
      have hHeld := B28.out
      refine wpAnyG_pure 29 (v := ?_) (fun _ => trivial) (by simp only [List.getElem?_toArray, List.getElem?_cons_succ, List.getElem?_cons_zero]; rfl) (by kernel_rfl) (fun _ _ _ _ _ h => h) ⟨(by rfl), (by intro c h; cases h), ?_⟩ hHeld ?_
      rotate_left
      focus (intro wS hSw; (try replace hSw := HSF.out wS hSw); (try dsimp only at hSw); go_simp; (try with_reducible rfl))
      (try simp only [Act.put, List.setIfInBounds_toArray, List.set_cons_zero, List.set_cons_succ])
      refine wpAnyG_pure 30 (v := ?_) (fun _ => trivial) (by simp only [List.getElem?_toArray, List.getElem?_cons_succ, List.getElem?_cons_zero]; rfl) (by kernel_rfl) (fun _ _ _ _ _ h => h) ⟨(by rfl), (by intro c h; cases h), ?_⟩ hHeld ?_
      rotate_left
      focus (intro wS hSw; (try replace hSw := HSF.out wS hSw); (try dsimp only at hSw); go_simp; (try with_reducible rfl))
      (try simp only [Act.put, List.setIfInBounds_toArray, List.set_cons_zero, List.set_cons_succ])
      refine wpAnyG_take 31 (v := ?_) (fun _ => trivial) (by simp only [List.getElem?_toArray, List.getElem?_cons_succ, List.getElem?_cons_zero]; rfl) (by kernel_rfl) (fun _ _ _ _ _ h => h) ⟨(by rfl), (by intro c h; cases h), ?_⟩ hHeld ?_
      rotate_left
      focus (intro wS hSw; (try replace hSw := HSF.out wS hSw); (try dsimp only at hSw); go_simp; (try with_reducible rfl))
      (try simp only [Act.put, List.setIfInBounds_toArray, List.set_cons_zero, List.set_cons_succ])
      refine wpAnyG_pure 32 (v := ?_) (fun _ => trivial) (by simp only [List.getElem?_toArray, List.getElem?_cons_succ, List.getElem?_cons_zero]; rfl) (by kernel_rfl) (fun _ _ _ _ _ h => h) ⟨(by rfl), (by intro c h; cases h), ?_⟩ hHeld ?_
      rotate_left
      focus (intro wS hSw; (try replace hSw := HSF.out wS hSw); (try dsimp only at hSw); go_simp; (try with_reducible rfl))
      (try simp only [Act.put, List.setIfInBounds_toArray, List.set_cons_zero, List.set_cons_succ])
      refine wpAnyG_pure 34 (v := ?_) (fun _ => trivial) (by simp only [List.getElem?_toArray, List.getElem?_cons_succ, List.getElem?_cons_zero]; rfl) (by kernel_rfl) (fun _ _ _ _ _ h => h) ⟨(by rfl), (by intro c h; cases h), ?_⟩ hHeld ?_
      rotate_left
      focus (intro wS hSw; (try replace hSw := HSF.out wS hSw); (try dsimp only at hSw); go_simp; (try with_reducible rfl))
      (try simp only [Act.put, List.setIfInBounds_toArray, List.set_cons_zero, List.set_cons_succ])
      refine wpAnyG_pure 35 (v := ?_) (fun _ => trivial) (by simp only [List.getElem?_toArray, List.getElem?_cons_succ, List.getElem?_cons_zero]; rfl) (by kernel_rfl) (fun _ _ _ _ _ h => h) ⟨(by rfl), (by intro c h; cases h), ?_⟩ hHeld ?_
      rotate_left
      focus (intro wS hSw; (try replace hSw := HSF.out wS hSw); (try dsimp only at hSw); go_simp; (try with_reducible rfl))
      (try simp only [Act.put, List.setIfInBounds_toArray, List.set_cons_zero, List.set_cons_succ])
      have HNe := hid (HNDS.out _ B28.out)
      refine wpAnyS_ready [33] (by kernel_rfl) (by simp) (AllReadyS.consG (by simp only [List.getElem?_toArray, List.getElem?_cons_succ, List.getElem?_cons_zero]; rfl) (by rfl) (fun K hK => ?_) AllReadyS.nil)
      refine callV (by intro c h; cases h) (by go_simp; try with_reducible rfl) HNe.out ?_
      intro vN w33 hx
      obtain ⟨ho33, hB33⟩ := hx
      have B33 := hid (B28.out.trans (hB33.mono B28.out.size))
      obtain ⟨AN, cN, rfl, -, -, hsn⟩ := RK.Own.slr ho33 exN_ok
      have SN := hid hsn
      refine hK.out _ _ B33.out ?_
      (try simp only [Act.put, List.setIfInBounds_toArray, List.set_cons_zero, List.set_cons_succ])
      clear hK K ho33 hB33 hsn HNe
      clear hHeld
      have hHeld := B33.out
      have HSr := hid (HSRW.out _ B33.out AN cN SN.out)
      refine wpAnyS_ready [36] (by kernel_rfl) (by simp) (AllReadyS.consG (by simp only [List.getElem?_toArray, List.getElem?_cons_succ, List.getElem?_cons_zero]; rfl) (by rfl) (fun K hK => ?_) AllReadyS.nil)
      refine callS (by intro c h; cases h) (by go_simp; try with_reducible rfl) HSr.out ?_
      intro w36 hBq
      have B36 := hid (B33.out.trans (hBq.mono B33.out.size))
      refine hK.out _ _ B36.out ?_
      (try simp only [Act.put, List.setIfInBounds_toArray, List.set_cons_zero, List.set_cons_succ])
      clear hK K hBq HSr SN
      clear hHeld
      have hHeld := B36.out
      refine wpAnyG_pure 37 (v := ?_) (fun _ => trivial) (by simp only [List.getElem?_toArray, List.getElem?_cons_succ, List.getElem?_cons_zero]; rfl) (by kernel_rfl) (fun _ _ _ _ _ h => h) ⟨(by rfl), (by intro c h; cases h), ?_⟩ hHeld ?_
      rotate_left
      focus (intro wS hSw; (try replace hSw := HSF.out wS hSw); (try dsimp only at hSw); go_simp; (try with_reducible rfl))
      (try simp only [Act.put, List.setIfInBounds_toArray, List.set_cons_zero, List.set_cons_succ])
      refine wpAnyG_pure 38 (v := ?_) (fun _ => trivial) (by simp only [List.getElem?_toArray, List.getElem?_cons_succ, List.getElem?_cons_zero]; rfl) (by kernel_rfl) (fun _ _ _ _ _ h => h) ⟨(by rfl), (by intro c h; cases h), ?_⟩ hHeld ?_
      rotate_left
      focus (intro wS hSw; (try replace hSw := HSF.out wS hSw); (try dsimp only at hSw); go_simp; (try with_reducible rfl))
      (try simp only [Act.put, List.setIfInBounds_toArray, List.set_cons_zero, List.set_cons_succ])
      refine wpAnyS_done (by kernel_rfl) ?_
      have BZ := hid (B7.out.trans (B36.out.mono B7.out.size))
      clear hHeld HSF
      as_aux_lemma =>
        go_wp2_with fail
        go_ret
        exact ⟨rfl, BZ.out⟩
  · --27 first
    go_simp
    have B27 := hid (BD.out.alloc BD.out.size (Obj.cells #[.int .i64 0, .int .i64 1, .int .i64 2] 3))
    have X27 := hid (Blk.new wd 3 #[.int .i64 0, .int .i64 1, .int .i64 2])
    refine hK.out _ _ B27.out ?_
    clear hK K
    (try simp only [Act.put, List.setIfInBounds_toArray, List.set_cons_zero, List.set_cons_succ])
    clear hHeld
    have hHeld := B27.out
    generalize wd.heap.size = g27 at *
    generalize (wd.alloc (Obj.cells #[.int .i64 0, .int .i64 1, .int .i64 2] 3)) = w27 at *
    refine wpAnyS_ready [25] (by kernel_rfl) (by simp) (AllReadyS.consG (by simp only [List.getElem?_toArray, List.getElem?_cons_succ, List.getElem?_cons_zero]; rfl) (by rfl) (fun K hK => ?_) AllReadyS.nil)
    go_simp
    have B25 := hid (B27.out.alloc B27.out.size (Obj.cells #[.int .i64 0, .int .i64 7] 3))
    have X25 := hid (Blk.new w27 3 #[.int .i64 0, .int .i64 7])
    refine hK.out _ _ B25.out ?_
    clear hK K
    (try simp only [Act.put, List.setIfInBounds_toArray, List.set_cons_zero, List.set_cons_succ])
    have X27b := hid (X27.out.alloc (Obj.cells #[.int .i64 0, .int .i64 7] 3))
    clear hHeld
    have hHeld := B25.out
    generalize w27.heap.size = g25 at *
    generalize (w27.alloc (Obj.cells #[.int .i64 0, .int .i64 7] 3)) = w25 at *
    refine wpAnyS_ready [26] (by kernel_rfl) (by simp) (AllReadyS.consG (by simp only [List.getElem?_toArray, List.getElem?_cons_succ, List.getElem?_cons_zero]; rfl) (by rfl) (fun K hK => ?_) AllReadyS.nil)
    have HFo := hid (HFOL.out _ B25.out _ X25.out)
    refine callV (by intro c h; cases h) (by go_simp; try with_reducible rfl) HFo.out ?_
    intro vF w26 hx
    obtain ⟨ho26, hB26⟩ := hx
    have B26 := hid (B25.out.trans (hB26.mono B25.out.size))
    have OV := hid (show OwnI w26 0 vF [0, 1, 2] from own_base ho26 (Nat.zero_le _))
    have X27c := hid (X27b.out.below hB26 X27b.out.lt)
    refine hK.out _ _ B26.out ?_
    (try simp only [Act.put, List.setIfInBounds_toArray, List.set_cons_zero, List.set_cons_succ])
    clear hK K ho26 hB26 HFo X27 X25 X27b
    clear hHeld
    have hHeld := B26.out
    obtain ⟨AV, cV, rfl, -, -, hsv⟩ := OV.out.slr i012
    have SV := hid hsv
    clear hsv
    have HSa := hid (HSAM.out _ _ cV _ SV.out X27c.out)
    refine wpAnyS_ready [28] (by kernel_rfl) (by simp) (AllReadyS.consG (by simp only [List.getElem?_toArray, List.getElem?_cons_succ, List.getElem?_cons_zero]; rfl) (by rfl) (fun K hK => ?_) AllReadyS.nil)
    refine callS (by intro c h; cases h) (by go_simp; try with_reducible rfl) HSa.out ?_
    intro w28 hBq
    have B28 := hid (B26.out.trans (hBq.mono B26.out.size))
    refine hK.out _ _ B28.out ?_
    (try simp only [Act.put, List.setIfInBounds_toArray, List.set_cons_zero, List.set_cons_succ])
    clear hK K hBq HSa SV OV
    clear hHeld
    have hHeld := B28.out
    refine wpAnyG_pure 29 (v := ?_) (fun _ => trivial) (by simp only [List.getElem?_toArray, List.getElem?_cons_succ, List.getElem?_cons_zero]; rfl) (by kernel_rfl) (fun _ _ _ _ _ h => h) ⟨(by rfl), (by intro c h; cases h), ?_⟩ hHeld ?_
    rotate_left
    focus (intro wS hSw; (try replace hSw := HSF.out wS hSw); (try dsimp only at hSw); go_simp; (try with_reducible rfl))
    (try simp only [Act.put, List.setIfInBounds_toArray, List.set_cons_zero, List.set_cons_succ])
    refine wpAnyG_pure 30 (v := ?_) (fun _ => trivial) (by simp only [List.getElem?_toArray, List.getElem?_cons_succ, List.getElem?_cons_zero]; rfl) (by kernel_rfl) (fun _ _ _ _ _ h => h) ⟨(by rfl), (by intro c h; cases h), ?_⟩ hHeld ?_
    rotate_left
    focus (intro wS hSw; (try replace hSw := HSF.out wS hSw); (try dsimp only at hSw); go_simp; (try with_reducible rfl))
    (try simp only [Act.put, List.setIfInBounds_toArray, List.set_cons_zero, List.set_cons_succ])
    refine wpAnyG_take 31 (v := ?_) (fun _ => trivial) (by simp only [List.getElem?_toArray, List.getElem?_cons_succ, List.getElem?_cons_zero]; rfl) (by kernel_rfl) (fun _ _ _ _ _ h => h) ⟨(by rfl), (by intro c h; cases h), ?_⟩ hHeld ?_
    rotate_left
    focus (intro wS hSw; (try replace hSw := HSF.out wS hSw); (try dsimp only at hSw); go_simp; (try with_reducible rfl))
    (try simp only [Act.put, List.setIfInBounds_toArray, List.set_cons_zero, List.set_cons_succ])
    refine wpAnyG_pure 32 (v := ?_) (fun _ => trivial) (by simp only [List.getElem?_toArray, List.getElem?_cons_succ, List.getElem?_cons_zero]; rfl) (by kernel_rfl) (fun _ _ _ _ _ h => h) ⟨(by rfl), (by intro c h; cases h), ?_⟩ hHeld ?_
    rotate_left
    focus (intro wS hSw; (try replace hSw := HSF.out wS hSw); (try dsimp only at hSw); go_simp; (try with_reducible rfl))
    (try simp only [Act.put, List.setIfInBounds_toArray, List.set_cons_zero, List.set_cons_succ])
    refine wpAnyG_pure 34 (v := ?_) (fun _ => trivial) (by simp only [List.getElem?_toArray, List.getElem?_cons_succ, List.getElem?_cons_zero]; rfl) (by kernel_rfl) (fun _ _ _ _ _ h => h) ⟨(by rfl), (by intro c h; cases h), ?_⟩ hHeld ?_
    rotate_left
    focus (intro wS hSw; (try replace hSw := HSF.out wS hSw); (try dsimp only at hSw); go_simp; (try with_reducible rfl))
    (try simp only [Act.put, List.setIfInBounds_toArray, List.set_cons_zero, List.set_cons_succ])
    refine wpAnyG_pure 35 (v := ?_) (fun _ => trivial) (by simp only [List.getElem?_toArray, List.getElem?_cons_succ, List.getElem?_cons_zero]; rfl) (by kernel_rfl) (fun _ _ _ _ _ h => h) ⟨(by rfl), (by intro c h; cases h), ?_⟩ hHeld ?_
    rotate_left
    focus (intro wS hSw; (try replace hSw := HSF.out wS hSw); (try dsimp only at hSw); go_simp; (try with_reducible rfl))
    (try simp only [Act.put, List.setIfInBounds_toArray, List.set_cons_zero, List.set_cons_succ])
    have HNe := hid (HNDS.out _ B28.out)
    refine wpAnyS_ready [33] (by kernel_rfl) (by simp) (AllReadyS.consG (by simp only [List.getElem?_toArray, List.getElem?_cons_succ, List.getElem?_cons_zero]; rfl) (by rfl) (fun K hK => ?_) AllReadyS.nil)
    refine callV (by intro c h; cases h) (by go_simp; try with_reducible rfl) HNe.out ?_
    intro vN w33 hx
    obtain ⟨ho33, hB33⟩ := hx
    have B33 := hid (B28.out.trans (hB33.mono B28.out.size))
    obtain ⟨AN, cN, rfl, -, -, hsn⟩ := RK.Own.slr ho33 exN_ok
    have SN := hid hsn
    refine hK.out _ _ B33.out ?_
    (try simp only [Act.put, List.setIfInBounds_toArray, List.set_cons_zero, List.set_cons_succ])
    clear hK K ho33 hB33 hsn HNe
    clear hHeld
    have hHeld := B33.out
    have HSr := hid (HSRW.out _ B33.out AN cN SN.out)
    refine wpAnyS_ready [36] (by kernel_rfl) (by simp) (AllReadyS.consG (by simp only [List.getElem?_toArray, List.getElem?_cons_succ, List.getElem?_cons_zero]; rfl) (by rfl) (fun K hK => ?_) AllReadyS.nil)
    refine callS (by intro c h; cases h) (by go_simp; try with_reducible rfl) HSr.out ?_
    intro w36 hBq
    have B36 := hid (B33.out.trans (hBq.mono B33.out.size))
    refine hK.out _ _ B36.out ?_
    (try simp only [Act.put, List.setIfInBounds_toArray, List.set_cons_zero, List.set_cons_succ])
    clear hK K hBq HSr SN
    clear hHeld
    have hHeld := B36.out
    refine wpAnyG_pure 37 (v := ?_) (fun _ => trivial) (by simp only [List.getElem?_toArray, List.getElem?_cons_succ, List.getElem?_cons_zero]; rfl) (by kernel_rfl) (fun _ _ _ _ _ h => h) ⟨(by rfl), (by intro c h; cases h), ?_⟩ hHeld ?_
    rotate_left
    focus (intro wS hSw; (try replace hSw := HSF.out wS hSw); (try dsimp only at hSw); go_simp; (try with_reducible rfl))
    (try simp only [Act.put, List.setIfInBounds_toArray, List.set_cons_zero, List.set_cons_succ])
    refine wpAnyG_pure 38 (v := ?_) (fun _ => trivial) (by simp only [List.getElem?_toArray, List.getElem?_cons_succ, List.getElem?_cons_zero]; rfl) (by kernel_rfl) (fun _ _ _ _ _ h => h) ⟨(by rfl), (by intro c h; cases h), ?_⟩ hHeld ?_
    rotate_left
    focus (intro wS hSw; (try replace hSw := HSF.out wS hSw); (try dsimp only at hSw); go_simp; (try with_reducible rfl))
    (try simp only [Act.put, List.setIfInBounds_toArray, List.set_cons_zero, List.set_cons_succ])
    refine wpAnyS_done (by kernel_rfl) ?_
    have BZ := hid (B7.out.trans (B36.out.mono B7.out.size))
    clear hHeld HSF
    as_aux_lemma =>
      go_wp2_with fail
      go_ret
      exact ⟨rfl, BZ.out⟩
end Go.Proofs.Ytdjjhflhdhihcaa
