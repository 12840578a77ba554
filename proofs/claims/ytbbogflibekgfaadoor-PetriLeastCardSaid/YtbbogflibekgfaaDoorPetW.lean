
/- Petri: PetriUnions, the walk. -/
import Derived.Test.YtbbogflibekgfaaDoorPetWp
import Derived.Test.YtbbogflibekgfaaDoorRegS
set_option linter.unusedSimpArgs false
set_option linter.unusedVariables false
namespace Go.Proofs.YtbbogflibekgfaaDoor
open Go.RowKit Go.IntWalk Go.Shelf

theorem minmax {n : Int} (h0 : 0 ≤ n) (h : n ≤ 64) : max 0 (min n 64) = n := by omega
theorem made_ints (n : Nat) : madeCells #[Value.int .i64 0] n = ((List.replicate n (0 : Int)).map (Value.int .i64)).toArray := by
  refine Array.ext ?_ ?_
  · simp [madeCells]
  · intro i h1 h2; simp [madeCells, Nat.mod_one]
theorem large_i64 {n : Int} {T : List Tr} {trap : Bool} {s r : List Int} (h : LargeL n T trap s r) : ∀ x ∈ r, I64 x := by
  unfold LargeL at h
  split at h
  · obtain ⟨v, _, rfl⟩ := h
    exact listN_i64 v
  · subst h; intro x hx; cases hx
set_option maxRecDepth 100000 in
set_option maxHeartbeats 8000000 in
theorem punions_any (n : Int) (A : Option Addr) (c : Nat) (T : List Tr) (one two : Int) (trap : Bool) (w : World) (hl : T.length ≤ maxLen) (h : SlR w w.heap.size A T) (hE : Env w) :
    Calls Tryd.prog 6 #[.agg #[.int .i64 n, .slice A T.length c], .int .i64 one, .int .i64 two, .bool trap] w fun e w' => e = .returned (.bool true) ∧ Below w.heap.size w w' := by
  obtain ⟨w1, hw1⟩ : ∃ w1, w1 = (w.alloc (Obj.cells #[.int .i64 n, .slice A T.length c] 24)) := ⟨_, rfl⟩
  have B1 := hid (show Below w.heap.size w w1 by rw [hw1]; (repeat (first | exact Below.refl _ _ | assumption | refine below_drewN ?_ _ | refine Below.drew ?_ | refine Below.alloc ?_ (by (try simp); (try omega)) _ | refine Below.setCell ?_ (by (try simp); (try omega)) _)))
  have X1 := hid (show Blk w1 w.heap.size 24 #[.int .i64 n, .slice A T.length c] by rw [hw1]; exact Blk.new w _ _)
  have HS := hid (psmall_any w1 (hE.below B1.out hE.pos))
  have HE := hid hE
  have H := hid h
  have hl2 := hid hl
  clear h hE hl
  go_enter Tryd.func6, Tryd.ntmps6
  go_upto_region 1 with fail
  rw [← hw1]
  clear hw1
  go_upto_region 2 with (go_at_call 8; refine HS.out.mono ?_; rintro e w2 ⟨rfl, hB⟩)
  have B2 := hid (B1.out.trans (hB.mono B1.out.size))
  have X2 := hid (X1.out.below hB X1.out.lt)
  clear hB HS B1 X1
  have x0 := X2.out.cell 0; have x1 := X2.out.cell 1; have xz := X2.out.lt
  simp at x0 x1
  have HSF := hid (fun (wq : World) (hq : Below w2.heap.size w2 wq) => And.intro ((bcell hq _ _ xz).trans x0) ((bcell hq _ _ xz).trans x1))
  have BD := hid ((Below.refl w2.heap.size w2).drew)
  refine wpIn_wide.1 (wpIn_region_S (n := 0) (fun wq => Below w2.heap.size w2 wq) [] (by kernel_rfl) BD.out (fun hHeld => ?_))
  generalize w2.drew = wd at *
  by_cases hn0 : n < 0
  case pos =>
    refine wpAnyG_pure 0 (v := ?_) (fun _ => trivial) (by simp only [List.getElem?_toArray, List.getElem?_cons_succ, List.getElem?_cons_zero]; rfl) (by kernel_rfl) (fun _ _ _ _ _ h => h) ⟨(by rfl), (by intro c h; cases h), ?_⟩ hHeld ?_
    rotate_left
    focus (intro wS hSw; (try replace hSw := HSF.out wS hSw); (try dsimp only at hSw); go_simp; (try with_reducible rfl))
    (try simp only [Act.put, List.setIfInBounds_toArray, List.set_cons_zero, List.set_cons_succ])
    refine wpAnyG_take 1 (v := ?_) (fun _ => trivial) (by simp only [List.getElem?_toArray, List.getElem?_cons_succ, List.getElem?_cons_zero]; rfl) (by kernel_rfl) (fun _ _ _ _ _ h => h) ⟨(by rfl), (by intro c h; cases h), ?_⟩ hHeld ?_
    rotate_left
    focus (intro wS hSw; (try replace hSw := HSF.out wS hSw); (try dsimp only at hSw); go_simp; (try with_reducible rfl))
    (try simp only [Act.put, List.setIfInBounds_toArray, List.set_cons_zero, List.set_cons_succ])
    refine wpAnyG_pure 2 (v := ?_) (fun _ => trivial) (by simp only [List.getElem?_toArray, List.getElem?_cons_succ, List.getElem?_cons_zero]; rfl) (by kernel_rfl) (fun _ _ _ _ _ h => h) ⟨(by rfl), (by intro c h; cases h), ?_⟩ hHeld ?_
    rotate_left
    focus (intro wS hSw; (try replace hSw := HSF.out wS hSw); (try dsimp only at hSw); go_simp; (try with_reducible rfl))
    (try simp only [Act.put, List.setIfInBounds_toArray, List.set_cons_zero, List.set_cons_succ])
    refine wpAnyG_pure 3 (v := ?_) (fun _ => trivial) (by simp only [List.getElem?_toArray, List.getElem?_cons_succ, List.getElem?_cons_zero]; rfl) (by kernel_rfl) (fun _ _ _ _ _ h => h) ⟨(by rfl), (by intro c h; cases h), ?_⟩ hHeld ?_
    rotate_left
    focus (intro wS hSw; (try replace hSw := HSF.out wS hSw); (try dsimp only at hSw); go_simp; (try with_reducible rfl))
    (try simp only [Act.put, List.setIfInBounds_toArray, List.set_cons_zero, List.set_cons_succ])
    refine wpAnyG_skip 4 (fun _ => trivial) (by simp only [List.getElem?_toArray, List.getElem?_cons_succ, List.getElem?_cons_zero]; rfl) (by kernel_rfl) (fun _ _ _ _ _ h => h) (by rfl) hHeld ?_
    (try simp only [Act.put, List.setIfInBounds_toArray, List.set_cons_zero, List.set_cons_succ])
    refine wpAnyG_skip 5 (fun _ => trivial) (by simp only [List.getElem?_toArray, List.getElem?_cons_succ, List.getElem?_cons_zero]; rfl) (by kernel_rfl) (fun _ _ _ _ _ h => h) (by rfl) hHeld ?_
    (try simp only [Act.put, List.setIfInBounds_toArray, List.set_cons_zero, List.set_cons_succ])
    refine wpAnyG_skip 6 (fun _ => trivial) (by simp only [List.getElem?_toArray, List.getElem?_cons_succ, List.getElem?_cons_zero]; rfl) (by kernel_rfl) (fun _ _ _ _ _ h => h) (by rfl) hHeld ?_
    (try simp only [Act.put, List.setIfInBounds_toArray, List.set_cons_zero, List.set_cons_succ])
    refine wpAnyG_pure 7 (v := ?_) (fun _ => trivial) (by simp only [List.getElem?_toArray, List.getElem?_cons_succ, List.getElem?_cons_zero]; rfl) (by kernel_rfl) (fun _ _ _ _ _ h => h) ⟨(by rfl), (by intro c h; cases h), ?_⟩ hHeld ?_
    rotate_left
    focus (intro wS hSw; (try replace hSw := HSF.out wS hSw); (try dsimp only at hSw); go_simp; (try with_reducible rfl))
    (try simp only [Act.put, List.setIfInBounds_toArray, List.set_cons_zero, List.set_cons_succ])
    refine wpAnyG_pure 8 (v := ?_) (fun _ => trivial) (by simp only [List.getElem?_toArray, List.getElem?_cons_succ, List.getElem?_cons_zero]; rfl) (by kernel_rfl) (fun _ _ _ _ _ h => h) ⟨(by rfl), (by intro c h; cases h), ?_⟩ hHeld ?_
    rotate_left
    focus (intro wS hSw; (try replace hSw := HSF.out wS hSw); (try dsimp only at hSw); go_simp; (try with_reducible rfl))
    (try simp only [Act.put, List.setIfInBounds_toArray, List.set_cons_zero, List.set_cons_succ])
    refine wpAnyG_skip 9 (fun _ => trivial) (by simp only [List.getElem?_toArray, List.getElem?_cons_succ, List.getElem?_cons_zero]; rfl) (by kernel_rfl) (fun _ _ _ _ _ h => h) (by rfl) hHeld ?_
    (try simp only [Act.put, List.setIfInBounds_toArray, List.set_cons_zero, List.set_cons_succ])
    refine wpAnyG_skip 10 (fun _ => trivial) (by simp only [List.getElem?_toArray, List.getElem?_cons_succ, List.getElem?_cons_zero]; rfl) (by kernel_rfl) (fun _ _ _ _ _ h => h) (by rfl) hHeld ?_
    (try simp only [Act.put, List.setIfInBounds_toArray, List.set_cons_zero, List.set_cons_succ])
    refine wpAnyG_skip 11 (fun _ => trivial) (by simp only [List.getElem?_toArray, List.getElem?_cons_succ, List.getElem?_cons_zero]; rfl) (by kernel_rfl) (fun _ _ _ _ _ h => h) (by rfl) hHeld ?_
    (try simp only [Act.put, List.setIfInBounds_toArray, List.set_cons_zero, List.set_cons_succ])
    refine wpAnyG_skip 12 (fun _ => trivial) (by simp only [List.getElem?_toArray, List.getElem?_cons_succ, List.getElem?_cons_zero]; rfl) (by kernel_rfl) (fun _ _ _ _ _ h => h) (by rfl) hHeld ?_
    (try simp only [Act.put, List.setIfInBounds_toArray, List.set_cons_zero, List.set_cons_succ])
    refine wpAnyG_skip 13 (fun _ => trivial) (by simp only [List.getElem?_toArray, List.getElem?_cons_succ, List.getElem?_cons_zero]; rfl) (by kernel_rfl) (fun _ _ _ _ _ h => h) (by rfl) hHeld ?_
    (try simp only [Act.put, List.setIfInBounds_toArray, List.set_cons_zero, List.set_cons_succ])
    refine wpAnyG_skip 14 (fun _ => trivial) (by simp only [List.getElem?_toArray, List.getElem?_cons_succ, List.getElem?_cons_zero]; rfl) (by kernel_rfl) (fun _ _ _ _ _ h => h) (by rfl) hHeld ?_
    (try simp only [Act.put, List.setIfInBounds_toArray, List.set_cons_zero, List.set_cons_succ])
    refine wpAnyG_skip 15 (fun _ => trivial) (by simp only [List.getElem?_toArray, List.getElem?_cons_succ, List.getElem?_cons_zero]; rfl) (by kernel_rfl) (fun _ _ _ _ _ h => h) (by rfl) hHeld ?_
    (try simp only [Act.put, List.setIfInBounds_toArray, List.set_cons_zero, List.set_cons_succ])
    refine wpAnyG_skip 16 (fun _ => trivial) (by simp only [List.getElem?_toArray, List.getElem?_cons_succ, List.getElem?_cons_zero]; rfl) (by kernel_rfl) (fun _ _ _ _ _ h => h) (by rfl) hHeld ?_
    (try simp only [Act.put, List.setIfInBounds_toArray, List.set_cons_zero, List.set_cons_succ])
    refine wpAnyG_pure 17 (v := ?_) (fun _ => trivial) (by simp only [List.getElem?_toArray, List.getElem?_cons_succ, List.getElem?_cons_zero]; rfl) (by kernel_rfl) (fun _ _ _ _ _ h => h) ⟨(by rfl), (by intro c h; cases h), ?_⟩ hHeld ?_
    rotate_left
    focus (intro wS hSw; (try replace hSw := HSF.out wS hSw); (try dsimp only at hSw); go_simp; (try with_reducible rfl))
    (try simp only [Act.put, List.setIfInBounds_toArray, List.set_cons_zero, List.set_cons_succ])
    refine wpAnyS_done (by kernel_rfl) ?_
    clear hHeld HSF
    have BW := hid (B2.out.trans (BD.out.mono B2.out.size))
    go_wp2_with fail
    go_ret
    exact ⟨rfl, BW.out⟩
  by_cases hn12 : 12 < n
  case pos =>
    refine wpAnyG_pure 0 (v := ?_) (fun _ => trivial) (by simp only [List.getElem?_toArray, List.getElem?_cons_succ, List.getElem?_cons_zero]; rfl) (by kernel_rfl) (fun _ _ _ _ _ h => h) ⟨(by rfl), (by intro c h; cases h), ?_⟩ hHeld ?_
    rotate_left
    focus (intro wS hSw; (try replace hSw := HSF.out wS hSw); (try dsimp only at hSw); go_simp; (try with_reducible rfl))
    (try simp only [Act.put, List.setIfInBounds_toArray, List.set_cons_zero, List.set_cons_succ])
    refine wpAnyG_take 1 (v := ?_) (fun _ => trivial) (by simp only [List.getElem?_toArray, List.getElem?_cons_succ, List.getElem?_cons_zero]; rfl) (by kernel_rfl) (fun _ _ _ _ _ h => h) ⟨(by rfl), (by intro c h; cases h), ?_⟩ hHeld ?_
    rotate_left
    focus (intro wS hSw; (try replace hSw := HSF.out wS hSw); (try dsimp only at hSw); go_simp; (try with_reducible rfl))
    (try simp only [Act.put, List.setIfInBounds_toArray, List.set_cons_zero, List.set_cons_succ])
    refine wpAnyG_pure 2 (v := ?_) (fun _ => trivial) (by simp only [List.getElem?_toArray, List.getElem?_cons_succ, List.getElem?_cons_zero]; rfl) (by kernel_rfl) (fun _ _ _ _ _ h => h) ⟨(by rfl), (by intro c h; cases h), ?_⟩ hHeld ?_
    rotate_left
    focus (intro wS hSw; (try replace hSw := HSF.out wS hSw); (try dsimp only at hSw); go_simp; (try with_reducible rfl))
    (try simp only [Act.put, List.setIfInBounds_toArray, List.set_cons_zero, List.set_cons_succ])
    refine wpAnyG_pure 3 (v := ?_) (fun _ => trivial) (by simp only [List.getElem?_toArray, List.getElem?_cons_succ, List.getElem?_cons_zero]; rfl) (by kernel_rfl) (fun _ _ _ _ _ h => h) ⟨(by rfl), (by intro c h; cases h), ?_⟩ hHeld ?_
    rotate_left
    focus (intro wS hSw; (try replace hSw := HSF.out wS hSw); (try dsimp only at hSw); go_simp; (try with_reducible rfl))
    (try simp only [Act.put, List.setIfInBounds_toArray, List.set_cons_zero, List.set_cons_succ])
    refine wpAnyG_pure 4 (v := ?_) (fun _ => trivial) (by simp only [List.getElem?_toArray, List.getElem?_cons_succ, List.getElem?_cons_zero]; rfl) (by kernel_rfl) (fun _ _ _ _ _ h => h) ⟨(by rfl), (by intro c h; cases h), ?_⟩ hHeld ?_
    rotate_left
    focus (intro wS hSw; (try replace hSw := HSF.out wS hSw); (try dsimp only at hSw); go_simp; (try with_reducible rfl))
    (try simp only [Act.put, List.setIfInBounds_toArray, List.set_cons_zero, List.set_cons_succ])
    refine wpAnyG_take 5 (v := ?_) (fun _ => trivial) (by simp only [List.getElem?_toArray, List.getElem?_cons_succ, List.getElem?_cons_zero]; rfl) (by kernel_rfl) (fun _ _ _ _ _ h => h) ⟨(by rfl), (by intro c h; cases h), ?_⟩ hHeld ?_
    rotate_left
    focus (intro wS hSw; (try replace hSw := HSF.out wS hSw); (try dsimp only at hSw); go_simp; (try with_reducible rfl))
    (try simp only [Act.put, List.setIfInBounds_toArray, List.set_cons_zero, List.set_cons_succ])
    refine wpAnyG_pure 6 (v := ?_) (fun _ => trivial) (by simp only [List.getElem?_toArray, List.getElem?_cons_succ, List.getElem?_cons_zero]; rfl) (by kernel_rfl) (fun _ _ _ _ _ h => h) ⟨(by rfl), (by intro c h; cases h), ?_⟩ hHeld ?_
    rotate_left
    focus (intro wS hSw; (try replace hSw := HSF.out wS hSw); (try dsimp only at hSw); go_simp; (try with_reducible rfl))
    (try simp only [Act.put, List.setIfInBounds_toArray, List.set_cons_zero, List.set_cons_succ])
    refine wpAnyG_pure 7 (v := ?_) (fun _ => trivial) (by simp only [List.getElem?_toArray, List.getElem?_cons_succ, List.getElem?_cons_zero]; rfl) (by kernel_rfl) (fun _ _ _ _ _ h => h) ⟨(by rfl), (by intro c h; cases h), ?_⟩ hHeld ?_
    rotate_left
    focus (intro wS hSw; (try replace hSw := HSF.out wS hSw); (try dsimp only at hSw); go_simp; (try with_reducible rfl))
    (try simp only [Act.put, List.setIfInBounds_toArray, List.set_cons_zero, List.set_cons_succ])
    refine wpAnyG_pure 8 (v := ?_) (fun _ => trivial) (by simp only [List.getElem?_toArray, List.getElem?_cons_succ, List.getElem?_cons_zero]; rfl) (by kernel_rfl) (fun _ _ _ _ _ h => h) ⟨(by rfl), (by intro c h; cases h), ?_⟩ hHeld ?_
    rotate_left
    focus (intro wS hSw; (try replace hSw := HSF.out wS hSw); (try dsimp only at hSw); go_simp; (try with_reducible rfl))
    (try simp only [Act.put, List.setIfInBounds_toArray, List.set_cons_zero, List.set_cons_succ])
    refine wpAnyG_skip 9 (fun _ => trivial) (by simp only [List.getElem?_toArray, List.getElem?_cons_succ, List.getElem?_cons_zero]; rfl) (by kernel_rfl) (fun _ _ _ _ _ h => h) (by rfl) hHeld ?_
    (try simp only [Act.put, List.setIfInBounds_toArray, List.set_cons_zero, List.set_cons_succ])
    refine wpAnyG_skip 10 (fun _ => trivial) (by simp only [List.getElem?_toArray, List.getElem?_cons_succ, List.getElem?_cons_zero]; rfl) (by kernel_rfl) (fun _ _ _ _ _ h => h) (by rfl) hHeld ?_
    (try simp only [Act.put, List.setIfInBounds_toArray, List.set_cons_zero, List.set_cons_succ])
    refine wpAnyG_skip 11 (fun _ => trivial) (by simp only [List.getElem?_toArray, List.getElem?_cons_succ, List.getElem?_cons_zero]; rfl) (by kernel_rfl) (fun _ _ _ _ _ h => h) (by rfl) hHeld ?_
    (try simp only [Act.put, List.setIfInBounds_toArray, List.set_cons_zero, List.set_cons_succ])
    refine wpAnyG_skip 12 (fun _ => trivial) (by simp only [List.getElem?_toArray, List.getElem?_cons_succ, List.getElem?_cons_zero]; rfl) (by kernel_rfl) (fun _ _ _ _ _ h => h) (by rfl) hHeld ?_
    (try simp only [Act.put, List.setIfInBounds_toArray, List.set_cons_zero, List.set_cons_succ])
    refine wpAnyG_skip 13 (fun _ => trivial) (by simp only [List.getElem?_toArray, List.getElem?_cons_succ, List.getElem?_cons_zero]; rfl) (by kernel_rfl) (fun _ _ _ _ _ h => h) (by rfl) hHeld ?_
    (try simp only [Act.put, List.setIfInBounds_toArray, List.set_cons_zero, List.set_cons_succ])
    refine wpAnyG_skip 14 (fun _ => trivial) (by simp only [List.getElem?_toArray, List.getElem?_cons_succ, List.getElem?_cons_zero]; rfl) (by kernel_rfl) (fun _ _ _ _ _ h => h) (by rfl) hHeld ?_
    (try simp only [Act.put, List.setIfInBounds_toArray, List.set_cons_zero, List.set_cons_succ])
    refine wpAnyG_skip 15 (fun _ => trivial) (by simp only [List.getElem?_toArray, List.getElem?_cons_succ, List.getElem?_cons_zero]; rfl) (by kernel_rfl) (fun _ _ _ _ _ h => h) (by rfl) hHeld ?_
    (try simp only [Act.put, List.setIfInBounds_toArray, List.set_cons_zero, List.set_cons_succ])
    refine wpAnyG_skip 16 (fun _ => trivial) (by simp only [List.getElem?_toArray, List.getElem?_cons_succ, List.getElem?_cons_zero]; rfl) (by kernel_rfl) (fun _ _ _ _ _ h => h) (by rfl) hHeld ?_
    (try simp only [Act.put, List.setIfInBounds_toArray, List.set_cons_zero, List.set_cons_succ])
    refine wpAnyG_pure 17 (v := ?_) (fun _ => trivial) (by simp only [List.getElem?_toArray, List.getElem?_cons_succ, List.getElem?_cons_zero]; rfl) (by kernel_rfl) (fun _ _ _ _ _ h => h) ⟨(by rfl), (by intro c h; cases h), ?_⟩ hHeld ?_
    rotate_left
    focus (intro wS hSw; (try replace hSw := HSF.out wS hSw); (try dsimp only at hSw); go_simp; (try with_reducible rfl))
    (try simp only [Act.put, List.setIfInBounds_toArray, List.set_cons_zero, List.set_cons_succ])
    refine wpAnyS_done (by kernel_rfl) ?_
    clear hHeld HSF
    have BW := hid (B2.out.trans (BD.out.mono B2.out.size))
    go_wp2_with fail
    go_ret
    exact ⟨rfl, BW.out⟩
  obtain ⟨N, hN⟩ : ∃ N : Nat, n = N := ⟨n.toNat, by omega⟩
  subst hN
  have hN12 : N ≤ 12 := by omega
  have hmm := minmax (n := (N : Int)) (by omega) (by omega)
  refine wpAnyG_pure 0 (v := ?_) (fun _ => trivial) (by simp only [List.getElem?_toArray, List.getElem?_cons_succ, List.getElem?_cons_zero]; rfl) (by kernel_rfl) (fun _ _ _ _ _ h => h) ⟨(by rfl), (by intro c h; cases h), ?_⟩ hHeld ?_
  rotate_left
  focus (intro wS hSw; (try replace hSw := HSF.out wS hSw); (try dsimp only at hSw); go_simp; (try with_reducible rfl))
  (try simp only [Act.put, List.setIfInBounds_toArray, List.set_cons_zero, List.set_cons_succ])
  refine wpAnyG_take 1 (v := ?_) (fun _ => trivial) (by simp only [List.getElem?_toArray, List.getElem?_cons_succ, List.getElem?_cons_zero]; rfl) (by kernel_rfl) (fun _ _ _ _ _ h => h) ⟨(by rfl), (by intro c h; cases h), ?_⟩ hHeld ?_
  rotate_left
  focus (intro wS hSw; (try replace hSw := HSF.out wS hSw); (try dsimp only at hSw); go_simp; (try with_reducible rfl))
  (try simp only [Act.put, List.setIfInBounds_toArray, List.set_cons_zero, List.set_cons_succ])
  refine wpAnyG_pure 2 (v := ?_) (fun _ => trivial) (by simp only [List.getElem?_toArray, List.getElem?_cons_succ, List.getElem?_cons_zero]; rfl) (by kernel_rfl) (fun _ _ _ _ _ h => h) ⟨(by rfl), (by intro c h; cases h), ?_⟩ hHeld ?_
  rotate_left
  focus (intro wS hSw; (try replace hSw := HSF.out wS hSw); (try dsimp only at hSw); go_simp; (try with_reducible rfl))
  (try simp only [Act.put, List.setIfInBounds_toArray, List.set_cons_zero, List.set_cons_succ])
  refine wpAnyG_pure 3 (v := ?_) (fun _ => trivial) (by simp only [List.getElem?_toArray, List.getElem?_cons_succ, List.getElem?_cons_zero]; rfl) (by kernel_rfl) (fun _ _ _ _ _ h => h) ⟨(by rfl), (by intro c h; cases h), ?_⟩ hHeld ?_
  rotate_left
  focus (intro wS hSw; (try replace hSw := HSF.out wS hSw); (try dsimp only at hSw); go_simp; (try with_reducible rfl))
  (try simp only [Act.put, List.setIfInBounds_toArray, List.set_cons_zero, List.set_cons_succ])
  refine wpAnyG_pure 4 (v := ?_) (fun _ => trivial) (by simp only [List.getElem?_toArray, List.getElem?_cons_succ, List.getElem?_cons_zero]; rfl) (by kernel_rfl) (fun _ _ _ _ _ h => h) ⟨(by rfl), (by intro c h; cases h), ?_⟩ hHeld ?_
  rotate_left
  focus (intro wS hSw; (try replace hSw := HSF.out wS hSw); (try dsimp only at hSw); go_simp; (try with_reducible rfl))
  (try simp only [Act.put, List.setIfInBounds_toArray, List.set_cons_zero, List.set_cons_succ])
  refine wpAnyG_take 5 (v := ?_) (fun _ => trivial) (by simp only [List.getElem?_toArray, List.getElem?_cons_succ, List.getElem?_cons_zero]; rfl) (by kernel_rfl) (fun _ _ _ _ _ h => h) ⟨(by rfl), (by intro c h; cases h), ?_⟩ hHeld ?_
  rotate_left
  focus (intro wS hSw; (try replace hSw := HSF.out wS hSw); (try dsimp only at hSw); go_simp; (try with_reducible rfl))
  (try simp only [Act.put, List.setIfInBounds_toArray, List.set_cons_zero, List.set_cons_succ])
  refine wpAnyG_pure 6 (v := ?_) (fun _ => trivial) (by simp only [List.getElem?_toArray, List.getElem?_cons_succ, List.getElem?_cons_zero]; rfl) (by kernel_rfl) (fun _ _ _ _ _ h => h) ⟨(by rfl), (by intro c h; cases h), ?_⟩ hHeld ?_
  rotate_left
  focus (intro wS hSw; (try replace hSw := HSF.out wS hSw); (try dsimp only at hSw); go_simp; (try with_reducible rfl))
  (try simp only [Act.put, List.setIfInBounds_toArray, List.set_cons_zero, List.set_cons_succ])
  refine wpAnyG_pure 7 (v := ?_) (fun _ => trivial) (by simp only [List.getElem?_toArray, List.getElem?_cons_succ, List.getElem?_cons_zero]; rfl) (by kernel_rfl) (fun _ _ _ _ _ h => h) ⟨(by rfl), (by intro c h; cases h), ?_⟩ hHeld ?_
  rotate_left
  focus (intro wS hSw; (try replace hSw := HSF.out wS hSw); (try dsimp only at hSw); go_simp; (try with_reducible rfl))
  (try simp only [Act.put, List.setIfInBounds_toArray, List.set_cons_zero, List.set_cons_succ])
  refine wpAnyG_pure 8 (v := ?_) (fun _ => trivial) (by simp only [List.getElem?_toArray, List.getElem?_cons_succ, List.getElem?_cons_zero]; rfl) (by kernel_rfl) (fun _ _ _ _ _ h => h) ⟨(by rfl), (by intro c h; cases h), ?_⟩ hHeld ?_
  rotate_left
  focus (intro wS hSw; (try replace hSw := HSF.out wS hSw); (try dsimp only at hSw); go_simp; (try with_reducible rfl))
  (try simp only [Act.put, List.setIfInBounds_toArray, List.set_cons_zero, List.set_cons_succ])
  refine wpAnyG_take 9 (v := ?_) (fun _ => trivial) (by simp only [List.getElem?_toArray, List.getElem?_cons_succ, List.getElem?_cons_zero]; rfl) (by kernel_rfl) (fun _ _ _ _ _ h => h) ⟨(by rfl), (by intro c h; cases h), ?_⟩ hHeld ?_
  rotate_left
  focus (intro wS hSw; (try replace hSw := HSF.out wS hSw); (try dsimp only at hSw); go_simp; (try with_reducible rfl))
  (try simp only [Act.put, List.setIfInBounds_toArray, List.set_cons_zero, List.set_cons_succ])
  refine wpAnyG_pure 10 (v := ?_) (fun _ => trivial) (by simp only [List.getElem?_toArray, List.getElem?_cons_succ, List.getElem?_cons_zero]; rfl) (by kernel_rfl) (fun _ _ _ _ _ h => h) ⟨(by rfl), (by intro c h; cases h), ?_⟩ hHeld ?_
  rotate_left
  focus (intro wS hSw; (try replace hSw := HSF.out wS hSw); (try dsimp only at hSw); go_simp; (try with_reducible rfl))
  (try simp only [Act.put, List.setIfInBounds_toArray, List.set_cons_zero, List.set_cons_succ])
  refine wpAnyG_take 11 (v := ?_) (fun _ => trivial) (by simp only [List.getElem?_toArray, List.getElem?_cons_succ, List.getElem?_cons_zero]; rfl) (by kernel_rfl) (fun _ _ _ _ _ h => h) ⟨(by rfl), (by intro c h; cases h), ?_⟩ hHeld ?_
  rotate_left
  focus (intro wS hSw; (try replace hSw := HSF.out wS hSw); (try dsimp only at hSw); go_simp; (try with_reducible rfl))
  (try simp only [Act.put, List.setIfInBounds_toArray, List.set_cons_zero, List.set_cons_succ])
  have hmin : min (N : Int) 64 = N := by omega
  have hmax : max 0 (N : Int) = N := by omega
  clear hmm
  refine wpAnyS_ready [12] (by kernel_rfl) (by simp) (AllReadyS.consG (by simp only [List.getElem?_toArray, List.getElem?_cons_succ, List.getElem?_cons_zero]; rfl) (by rfl) (fun K hK => ?_) AllReadyS.nil)
  go_simp
  try rw [hmin]
  refine hK.out _ _ hHeld ?_
  (try simp only [Act.put, List.setIfInBounds_toArray, List.set_cons_zero, List.set_cons_succ])
  clear hK K
  refine wpAnyS_ready [13] (by kernel_rfl) (by simp) (AllReadyS.consG (by simp only [List.getElem?_toArray, List.getElem?_cons_succ, List.getElem?_cons_zero]; rfl) (by rfl) (fun K hK => ?_) AllReadyS.nil)
  go_simp
  try rw [hmax]
  refine hK.out _ _ hHeld ?_
  (try simp only [Act.put, List.setIfInBounds_toArray, List.set_cons_zero, List.set_cons_succ])
  clear hK K hmin hmax
  refine wpAnyS_ready [14] (by kernel_rfl) (by simp) (AllReadyS.consG (by simp only [List.getElem?_toArray, List.getElem?_cons_succ, List.getElem?_cons_zero]; rfl) (by rfl) (fun K hK => ?_) AllReadyS.nil)
  obtain ⟨i0, hi, hz0, hz1, hz2⟩ := info_parts infoInt
  have hmk := fun W => run_make_rowN (P := Tryd.prog) 25 3 i0 _ Tryd.underlying25 hi hz0 .i64 .i64 N N (Nat.le_refl _) (by rw [hz2]; omega) (by omega) W
  rw [hz1] at hmk
  clear hi hz0 hz1 hz2
  go_simp
  clear hmk
  have hz := hid (Blk.new wd 3 (madeCells #[Value.int .i64 0] N))
  have BZ := hid (BD.out.alloc BD.out.size (Obj.cells (madeCells #[Value.int .i64 0] N) 3))
  refine hK.out _ _ BZ.out ?_
  (try simp only [Act.put, List.setIfInBounds_toArray, List.set_cons_zero, List.set_cons_succ])
  clear hK K hHeld
  have SZ := hid (show SlR (wd.alloc (Obj.cells (madeCells #[Value.int .i64 0] N) 3)) (wd.alloc (Obj.cells (madeCells #[Value.int .i64 0] N) 3)).heap.size (some ⟨wd.heap.size, 0, none⟩) (List.replicate N (0 : Int)) from by
    have hb := hz.out
    rw [made_ints] at hb ⊢
    exact hb.ints hb.lt (fun x hx => by have := List.eq_of_mem_replicate hx; subst this; exact i64s 0 (by omega)))
  generalize wd.heap.size = gz at *
  generalize (wd.alloc (Obj.cells (madeCells #[Value.int .i64 0] N) 3)) = wz at *
  have hHeld := BZ.out
  have HT := hid (fun (W : World) (hW : Below w2.heap.size w2 W) => show SlR W W.heap.size A T from ((H.out.below (B2.out.trans (hW.mono B2.out.size))).more (B2.out.trans (hW.mono B2.out.size)).size))
  have HFI := hid (show Calls Tryd.prog 9 #[.agg #[.int .i64 (N : Nat), .slice A T.length c], .slice (some ⟨gz, 0, none⟩) N N, .int .i64 12, .int .i64 20] wz fun e w' => e = .returned (.bool (fitsN N T (List.replicate N (0 : Int)) 12 20)) ∧ Below wz.heap.size wz w' from by
    have := fits_any (N : Int) A c T (some ⟨gz, 0, none⟩) N (List.replicate N (0 : Int)) 12 20 wz hl2.out (HT.out _ BZ.out) (by rw [List.length_replicate]; unfold maxLen; omega) SZ.out
    rw [List.length_replicate] at this
    exact this)
  have hfp := hid (show fitsN N T (List.replicate N (0 : Int)) 12 20 = true → netOK ((N : Int), T) = true ∧ T.length ≤ 20 from fun h => by
    unfold fitsN fewN at h
    simp only [Bool.and_eq_true, decide_eq_true_eq] at h
    exact ⟨h.1.1.2, by have := h.1.1.1.1.2; omega⟩)
  generalize fitsN N T (List.replicate N (0 : Int)) 12 20 = ok at *
  refine wpAnyS_ready [15] (by kernel_rfl) (by simp) (AllReadyS.consG (by simp only [List.getElem?_toArray, List.getElem?_cons_succ, List.getElem?_cons_zero]; rfl) (by rfl) (fun K hK => ?_) AllReadyS.nil)
  refine callS (by intro c h; cases h) (by go_simp; try with_reducible rfl) (HFI.out) ?_
  intro w3 hBq
  have B3 := hid (BZ.out.trans (hBq.mono BZ.out.size))
  refine hK.out _ _ B3.out ?_
  (try simp only [Act.put, List.setIfInBounds_toArray, List.set_cons_zero, List.set_cons_succ])
  clear hK K hBq
  clear hHeld
  have hHeld := B3.out
  cases ok with
  | false =>
    refine wpAnyG_pure 16 (v := ?_) (fun _ => trivial) (by simp only [List.getElem?_toArray, List.getElem?_cons_succ, List.getElem?_cons_zero]; rfl) (by kernel_rfl) (fun _ _ _ _ _ h => h) ⟨(by rfl), (by intro c h; cases h), ?_⟩ hHeld ?_
    rotate_left
    focus (intro wS hSw; (try replace hSw := HSF.out wS hSw); (try dsimp only at hSw); go_simp; (try with_reducible rfl))
    (try simp only [Act.put, List.setIfInBounds_toArray, List.set_cons_zero, List.set_cons_succ])
    refine wpAnyG_pure 17 (v := ?_) (fun _ => trivial) (by simp only [List.getElem?_toArray, List.getElem?_cons_succ, List.getElem?_cons_zero]; rfl) (by kernel_rfl) (fun _ _ _ _ _ h => h) ⟨(by rfl), (by intro c h; cases h), ?_⟩ hHeld ?_
    rotate_left
    focus (intro wS hSw; (try replace hSw := HSF.out wS hSw); (try dsimp only at hSw); go_simp; (try with_reducible rfl))
    (try simp only [Act.put, List.setIfInBounds_toArray, List.set_cons_zero, List.set_cons_succ])
    refine wpAnyS_done (by kernel_rfl) ?_
    clear hHeld HSF
    have BW := hid (B2.out.trans (B3.out.mono B2.out.size))
    go_wp2_with fail
    go_ret
    exact ⟨rfl, BW.out⟩
  | true =>
  obtain ⟨hok, h20⟩ := hfp.out rfl
  have HOK := hid hok
  clear hok hfp HFI SZ hz BZ
  refine wpAnyG_pure 16 (v := ?_) (fun _ => trivial) (by simp only [List.getElem?_toArray, List.getElem?_cons_succ, List.getElem?_cons_zero]; rfl) (by kernel_rfl) (fun _ _ _ _ _ h => h) ⟨(by rfl), (by intro c h; cases h), ?_⟩ hHeld ?_
  rotate_left
  focus (intro wS hSw; (try replace hSw := HSF.out wS hSw); (try dsimp only at hSw); go_simp; (try with_reducible rfl))
  (try simp only [Act.put, List.setIfInBounds_toArray, List.set_cons_zero, List.set_cons_succ])
  refine wpAnyG_pure 17 (v := ?_) (fun _ => trivial) (by simp only [List.getElem?_toArray, List.getElem?_cons_succ, List.getElem?_cons_zero]; rfl) (by kernel_rfl) (fun _ _ _ _ _ h => h) ⟨(by rfl), (by intro c h; cases h), ?_⟩ hHeld ?_
  rotate_left
  focus (intro wS hSw; (try replace hSw := HSF.out wS hSw); (try dsimp only at hSw); go_simp; (try with_reducible rfl))
  (try simp only [Act.put, List.setIfInBounds_toArray, List.set_cons_zero, List.set_cons_succ])
  refine wpAnyS_done (by kernel_rfl) ?_
  clear hHeld
  have HPK := hid (fun (b : Int) (W : World) => (show Calls Tryd.prog 14 #[.int .i64 b, .int .i64 (N : Nat)] W fun e w' => ∃ A' c', e = .returned (.slice A' (pickN b N).length c') ∧ SlR w' w'.heap.size A' (pickN b N) ∧ Below W.heap.size W w' from
    (pick_any b N W (by omega)).mono (fun e w' ⟨A', c', he, ho, hb⟩ => by
      obtain ⟨A9, c9, e9, _, _, hs⟩ := ho.slr (fun x hx => by have := pickN_mem.1 hx; exact i64s x (by omega))
      injection e9 with e9
      rw [← e9] at hs
      exact ⟨A', c', he, hs, hb⟩)))
  have HLG := hid (fun (P : List Int) (A4 : Option Addr) (c4 : Nat) (W : World) (hW : Below w2.heap.size w2 W) (hs : SlR W W.heap.size A4 P) (hp : P.length ≤ maxLen) => (show Calls Tryd.prog 13 #[.agg #[.int .i64 (N : Nat), .slice A T.length c], .slice A4 P.length c4, .bool trap] W fun e w' => ∃ A' c' r, e = .returned (.slice A' r.length c') ∧ LargeL N T trap P r ∧ r.length ≤ c' ∧ c' ≤ maxLen ∧ SlR w' w'.heap.size A' r ∧ Below W.heap.size W w' from
    (largest_any (N : Int) A c T A4 c4 P trap W hl2.out (HT.out _ hW) hp hs HOK.out (HE.out.below (B2.out.trans (hW.mono B2.out.size)) HE.out.pos)).mono (fun e w' ⟨A', c', r, he, hg, ho, hb⟩ => by
      obtain ⟨A9, c9, e9, h1, h2, hs⟩ := ho.slr (large_i64 hg)
      injection e9 with e9 _ e8
      rw [← e9] at hs
      rw [← e8] at h1 h2
      exact ⟨A', c', r, he, hg, h1, h2, hs, hb⟩)))
  go_upto_region 4 with fail
  have BD1 := hid (B3.out.drew)
  have WD1 := hid ((Below.refl w3.heap.size w3).drew)
  refine wpIn_wide.1 (wpIn_region_S (n := 0) (fun wq => Below w2.heap.size w2 wq) [] (by kernel_rfl) BD1.out (fun hHeld => ?_))
  generalize w3.drew = wd1 at *
  refine wpAnyG_take 0 (v := ?_) (fun _ => trivial) (by simp only [List.getElem?_toArray, List.getElem?_cons_succ, List.getElem?_cons_zero]; rfl) (by kernel_rfl) (fun _ _ _ _ _ h => h) ⟨(by rfl), (by intro c h; cases h), ?_⟩ hHeld ?_
  rotate_left
  focus (intro wS hSw; (try replace hSw := HSF.out wS hSw); (try dsimp only at hSw); go_simp; (try with_reducible rfl))
  (try simp only [Act.put, List.setIfInBounds_toArray, List.set_cons_zero, List.set_cons_succ])
  refine wpAnyG_pure 1 (v := ?_) (fun _ => trivial) (by simp only [List.getElem?_toArray, List.getElem?_cons_succ, List.getElem?_cons_zero]; rfl) (by kernel_rfl) (fun _ _ _ _ _ h => h) ⟨(by rfl), (by intro c h; cases h), ?_⟩ hHeld ?_
  rotate_left
  focus (intro wS hSw; (try replace hSw := HSF.out wS hSw); (try dsimp only at hSw); go_simp; (try with_reducible rfl))
  (try simp only [Act.put, List.setIfInBounds_toArray, List.set_cons_zero, List.set_cons_succ])
  refine wpAnyG_pure 2 (v := ?_) (fun _ => trivial) (by simp only [List.getElem?_toArray, List.getElem?_cons_succ, List.getElem?_cons_zero]; rfl) (by kernel_rfl) (fun _ _ _ _ _ h => h) ⟨(by rfl), (by intro c h; cases h), ?_⟩ hHeld ?_
  rotate_left
  focus (intro wS hSw; (try replace hSw := HSF.out wS hSw); (try dsimp only at hSw); go_simp; (try with_reducible rfl))
  (try simp only [Act.put, List.setIfInBounds_toArray, List.set_cons_zero, List.set_cons_succ])
  refine wpAnyG_take 3 (v := ?_) (fun _ => trivial) (by simp only [List.getElem?_toArray, List.getElem?_cons_succ, List.getElem?_cons_zero]; rfl) (by kernel_rfl) (fun _ _ _ _ _ h => h) ⟨(by rfl), (by intro c h; cases h), ?_⟩ hHeld ?_
  rotate_left
  focus (intro wS hSw; (try replace hSw := HSF.out wS hSw); (try dsimp only at hSw); go_simp; (try with_reducible rfl))
  (try simp only [Act.put, List.setIfInBounds_toArray, List.set_cons_zero, List.set_cons_succ])
  refine wpAnyG_pure 5 (v := ?_) (fun _ => trivial) (by simp only [List.getElem?_toArray, List.getElem?_cons_succ, List.getElem?_cons_zero]; rfl) (by kernel_rfl) (fun _ _ _ _ _ h => h) ⟨(by rfl), (by intro c h; cases h), ?_⟩ hHeld ?_
  rotate_left
  focus (intro wS hSw; (try replace hSw := HSF.out wS hSw); (try dsimp only at hSw); go_simp; (try with_reducible rfl))
  (try simp only [Act.put, List.setIfInBounds_toArray, List.set_cons_zero, List.set_cons_succ])
  refine wpAnyS_ready [4] (by kernel_rfl) (by simp) (AllReadyS.consG (by simp only [List.getElem?_toArray, List.getElem?_cons_succ, List.getElem?_cons_zero]; rfl) (by rfl) (fun K hK => ?_) AllReadyS.nil)
  refine callV (R := fun u w' => ∃ (Al : Option Addr) (cl : Nat), u = .slice Al (pickN one N).length cl ∧ SlR w' w'.heap.size Al (pickN one N) ∧ Below wd1.heap.size wd1 w') (by intro c h; cases h) (by go_simp; try with_reducible rfl) ((HPK.out one wd1).mono (fun e w' ⟨A', c', he, hs, hb⟩ => ⟨_, he, A', c', rfl, hs, hb⟩)) ?_
  rintro u wp ⟨Al, cl, rfl, hsl, hbl⟩
  have BP1 := hid (BD1.out.trans (hbl.mono BD1.out.size))
  have SP1 := hid hsl
  have WP1 := hid (WD1.out.trans (hbl.mono WD1.out.size))
  refine hK.out _ _ BP1.out ?_
  (try simp only [Act.put, List.setIfInBounds_toArray, List.set_cons_zero, List.set_cons_succ])
  clear hK K hHeld hsl hbl
  have hHeld := BP1.out
  refine wpAnyS_ready [6] (by kernel_rfl) (by simp) (AllReadyS.consG (by simp only [List.getElem?_toArray, List.getElem?_cons_succ, List.getElem?_cons_zero]; rfl) (by rfl) (fun K hK => ?_) AllReadyS.nil)
  refine callV (R := fun u w' => ∃ (Al : Option Addr) (cl : Nat) (r : List Int), u = .slice Al r.length cl ∧ LargeL N T trap (pickN one N) r ∧ r.length ≤ cl ∧ cl ≤ maxLen ∧ SlR w' w'.heap.size Al r ∧ Below wp.heap.size wp w') (by intro c h; cases h) (by go_simp; try with_reducible rfl) ((HLG.out _ Al cl wp BP1.out SP1.out (by have := pickN_len one N; unfold maxLen; omega)).mono (fun e w' ⟨A', c', r, he, h1, h2, h3, hs, hb⟩ => ⟨_, he, A', c', r, rfl, h1, h2, h3, hs, hb⟩)) ?_
  rintro u wl1 ⟨AL1, cL1, r1, rfl, hlg, hc1, hc2, hsl, hbl⟩
  have BL1 := hid (BP1.out.trans (hbl.mono BP1.out.size))
  have SL1 := hid hsl
  have LG1 := hid hlg
  have LC1 := hid (And.intro hc1 hc2)
  have WL1 := hid (WP1.out.trans (hbl.mono WP1.out.size))
  refine hK.out _ _ BL1.out ?_
  (try simp only [Act.put, List.setIfInBounds_toArray, List.set_cons_zero, List.set_cons_succ])
  clear hK K hHeld hsl hbl hlg hc1 hc2 SP1
  have hHeld := BL1.out
  refine wpAnyG_pure 7 (v := ?_) (fun _ => trivial) (by simp only [List.getElem?_toArray, List.getElem?_cons_succ, List.getElem?_cons_zero]; rfl) (by kernel_rfl) (fun _ _ _ _ _ h => h) ⟨(by rfl), (by intro c h; cases h), ?_⟩ hHeld ?_
  rotate_left
  focus (intro wS hSw; (try replace hSw := HSF.out wS hSw); (try dsimp only at hSw); go_simp; (try with_reducible rfl))
  (try simp only [Act.put, List.setIfInBounds_toArray, List.set_cons_zero, List.set_cons_succ])
  refine wpAnyS_done (by kernel_rfl) ?_
  clear hHeld BP1 BD1 WD1 WP1
  go_upto_region 5 with fail
  have BD2 := hid (BL1.out.drew)
  have WD2 := hid ((Below.refl wl1.heap.size wl1).drew)
  refine wpIn_wide.1 (wpIn_region_S (n := 0) (fun wq => Below w2.heap.size w2 wq) [] (by kernel_rfl) BD2.out (fun hHeld => ?_))
  generalize wl1.drew = wd2 at *
  refine wpAnyG_take 0 (v := ?_) (fun _ => trivial) (by simp only [List.getElem?_toArray, List.getElem?_cons_succ, List.getElem?_cons_zero]; rfl) (by kernel_rfl) (fun _ _ _ _ _ h => h) ⟨(by rfl), (by intro c h; cases h), ?_⟩ hHeld ?_
  rotate_left
  focus (intro wS hSw; (try replace hSw := HSF.out wS hSw); (try dsimp only at hSw); go_simp; (try with_reducible rfl))
  (try simp only [Act.put, List.setIfInBounds_toArray, List.set_cons_zero, List.set_cons_succ])
  refine wpAnyG_pure 1 (v := ?_) (fun _ => trivial) (by simp only [List.getElem?_toArray, List.getElem?_cons_succ, List.getElem?_cons_zero]; rfl) (by kernel_rfl) (fun _ _ _ _ _ h => h) ⟨(by rfl), (by intro c h; cases h), ?_⟩ hHeld ?_
  rotate_left
  focus (intro wS hSw; (try replace hSw := HSF.out wS hSw); (try dsimp only at hSw); go_simp; (try with_reducible rfl))
  (try simp only [Act.put, List.setIfInBounds_toArray, List.set_cons_zero, List.set_cons_succ])
  refine wpAnyG_pure 2 (v := ?_) (fun _ => trivial) (by simp only [List.getElem?_toArray, List.getElem?_cons_succ, List.getElem?_cons_zero]; rfl) (by kernel_rfl) (fun _ _ _ _ _ h => h) ⟨(by rfl), (by intro c h; cases h), ?_⟩ hHeld ?_
  rotate_left
  focus (intro wS hSw; (try replace hSw := HSF.out wS hSw); (try dsimp only at hSw); go_simp; (try with_reducible rfl))
  (try simp only [Act.put, List.setIfInBounds_toArray, List.set_cons_zero, List.set_cons_succ])
  refine wpAnyG_take 3 (v := ?_) (fun _ => trivial) (by simp only [List.getElem?_toArray, List.getElem?_cons_succ, List.getElem?_cons_zero]; rfl) (by kernel_rfl) (fun _ _ _ _ _ h => h) ⟨(by rfl), (by intro c h; cases h), ?_⟩ hHeld ?_
  rotate_left
  focus (intro wS hSw; (try replace hSw := HSF.out wS hSw); (try dsimp only at hSw); go_simp; (try with_reducible rfl))
  (try simp only [Act.put, List.setIfInBounds_toArray, List.set_cons_zero, List.set_cons_succ])
  refine wpAnyG_pure 5 (v := ?_) (fun _ => trivial) (by simp only [List.getElem?_toArray, List.getElem?_cons_succ, List.getElem?_cons_zero]; rfl) (by kernel_rfl) (fun _ _ _ _ _ h => h) ⟨(by rfl), (by intro c h; cases h), ?_⟩ hHeld ?_
  rotate_left
  focus (intro wS hSw; (try replace hSw := HSF.out wS hSw); (try dsimp only at hSw); go_simp; (try with_reducible rfl))
  (try simp only [Act.put, List.setIfInBounds_toArray, List.set_cons_zero, List.set_cons_succ])
  refine wpAnyS_ready [4] (by kernel_rfl) (by simp) (AllReadyS.consG (by simp only [List.getElem?_toArray, List.getElem?_cons_succ, List.getElem?_cons_zero]; rfl) (by rfl) (fun K hK => ?_) AllReadyS.nil)
  refine callV (R := fun u w' => ∃ (Al : Option Addr) (cl : Nat), u = .slice Al (pickN two N).length cl ∧ SlR w' w'.heap.size Al (pickN two N) ∧ Below wd2.heap.size wd2 w') (by intro c h; cases h) (by go_simp; try with_reducible rfl) ((HPK.out two wd2).mono (fun e w' ⟨A', c', he, hs, hb⟩ => ⟨_, he, A', c', rfl, hs, hb⟩)) ?_
  rintro u wp ⟨Al, cl, rfl, hsl, hbl⟩
  have BP2 := hid (BD2.out.trans (hbl.mono BD2.out.size))
  have SP2 := hid hsl
  have WP2 := hid (WD2.out.trans (hbl.mono WD2.out.size))
  refine hK.out _ _ BP2.out ?_
  (try simp only [Act.put, List.setIfInBounds_toArray, List.set_cons_zero, List.set_cons_succ])
  clear hK K hHeld hsl hbl
  have hHeld := BP2.out
  refine wpAnyS_ready [6] (by kernel_rfl) (by simp) (AllReadyS.consG (by simp only [List.getElem?_toArray, List.getElem?_cons_succ, List.getElem?_cons_zero]; rfl) (by rfl) (fun K hK => ?_) AllReadyS.nil)
  refine callV (R := fun u w' => ∃ (Al : Option Addr) (cl : Nat) (r : List Int), u = .slice Al r.length cl ∧ LargeL N T trap (pickN two N) r ∧ r.length ≤ cl ∧ cl ≤ maxLen ∧ SlR w' w'.heap.size Al r ∧ Below wp.heap.size wp w') (by intro c h; cases h) (by go_simp; try with_reducible rfl) ((HLG.out _ Al cl wp BP2.out SP2.out (by have := pickN_len two N; unfold maxLen; omega)).mono (fun e w' ⟨A', c', r, he, h1, h2, h3, hs, hb⟩ => ⟨_, he, A', c', r, rfl, h1, h2, h3, hs, hb⟩)) ?_
  rintro u wl2 ⟨AL2, cL2, r2, rfl, hlg, hc1, hc2, hsl, hbl⟩
  have BL2 := hid (BP2.out.trans (hbl.mono BP2.out.size))
  have SL2 := hid hsl
  have LG2 := hid hlg
  have LC2 := hid (And.intro hc1 hc2)
  have WL2 := hid (WP2.out.trans (hbl.mono WP2.out.size))
  refine hK.out _ _ BL2.out ?_
  (try simp only [Act.put, List.setIfInBounds_toArray, List.set_cons_zero, List.set_cons_succ])
  clear hK K hHeld hsl hbl hlg hc1 hc2 SP2
  have hHeld := BL2.out
  refine wpAnyG_pure 7 (v := ?_) (fun _ => trivial) (by simp only [List.getElem?_toArray, List.getElem?_cons_succ, List.getElem?_cons_zero]; rfl) (by kernel_rfl) (fun _ _ _ _ _ h => h) ⟨(by rfl), (by intro c h; cases h), ?_⟩ hHeld ?_
  rotate_left
  focus (intro wS hSw; (try replace hSw := HSF.out wS hSw); (try dsimp only at hSw); go_simp; (try with_reducible rfl))
  (try simp only [Act.put, List.setIfInBounds_toArray, List.set_cons_zero, List.set_cons_succ])
  refine wpAnyS_done (by kernel_rfl) ?_
  clear hHeld BP2 BD2 WD2 WP2
  go_upto_region 6 with fail
  have hor := hid (show bits .or .i64 one two = bits .or .i64 one two from rfl)
  generalize hbo : bits .or .i64 one two = bo at *
  have BD3 := hid (BL2.out.drew)
  have WD3 := hid ((Below.refl wl2.heap.size wl2).drew)
  refine wpIn_wide.1 (wpIn_region_S (n := 0) (fun wq => Below w2.heap.size w2 wq) [] (by kernel_rfl) BD3.out (fun hHeld => ?_))
  generalize wl2.drew = wd3 at *
  refine wpAnyG_take 0 (v := ?_) (fun _ => trivial) (by simp only [List.getElem?_toArray, List.getElem?_cons_succ, List.getElem?_cons_zero]; rfl) (by kernel_rfl) (fun _ _ _ _ _ h => h) ⟨(by rfl), (by intro c h; cases h), ?_⟩ hHeld ?_
  rotate_left
  focus (intro wS hSw; (try replace hSw := HSF.out wS hSw); (try dsimp only at hSw); go_simp; (try with_reducible rfl))
  (try simp only [Act.put, List.setIfInBounds_toArray, List.set_cons_zero, List.set_cons_succ])
  refine wpAnyG_pure 1 (v := ?_) (fun _ => trivial) (by simp only [List.getElem?_toArray, List.getElem?_cons_succ, List.getElem?_cons_zero]; rfl) (by kernel_rfl) (fun _ _ _ _ _ h => h) ⟨(by rfl), (by intro c h; cases h), ?_⟩ hHeld ?_
  rotate_left
  focus (intro wS hSw; (try replace hSw := HSF.out wS hSw); (try dsimp only at hSw); go_simp; (try with_reducible rfl))
  (try simp only [Act.put, List.setIfInBounds_toArray, List.set_cons_zero, List.set_cons_succ])
  refine wpAnyG_pure 2 (v := ?_) (fun _ => trivial) (by simp only [List.getElem?_toArray, List.getElem?_cons_succ, List.getElem?_cons_zero]; rfl) (by kernel_rfl) (fun _ _ _ _ _ h => h) ⟨(by rfl), (by intro c h; cases h), ?_⟩ hHeld ?_
  rotate_left
  focus (intro wS hSw; (try replace hSw := HSF.out wS hSw); (try dsimp only at hSw); go_simp; (try with_reducible rfl))
  (try simp only [Act.put, List.setIfInBounds_toArray, List.set_cons_zero, List.set_cons_succ])
  refine wpAnyG_pure 3 (v := ?_) (fun _ => trivial) (by simp only [List.getElem?_toArray, List.getElem?_cons_succ, List.getElem?_cons_zero]; rfl) (by kernel_rfl) (fun _ _ _ _ _ h => h) ⟨(by rfl), (by intro c h; cases h), ?_⟩ hHeld ?_
  rotate_left
  focus (intro wS hSw; (try replace hSw := HSF.out wS hSw); (try dsimp only at hSw); go_simp; (try with_reducible rfl))
  (try simp only [Act.put, List.setIfInBounds_toArray, List.set_cons_zero, List.set_cons_succ])
  refine wpAnyG_pure 4 (v := ?_) (fun _ => trivial) (by simp only [List.getElem?_toArray, List.getElem?_cons_succ, List.getElem?_cons_zero]; rfl) (by kernel_rfl) (fun _ _ _ _ _ h => h) ⟨(by rfl), (by intro c h; cases h), ?_⟩ hHeld ?_
  rotate_left
  focus (intro wS hSw; (try replace hSw := HSF.out wS hSw); (try dsimp only at hSw); go_simp; (try with_reducible rfl))
  (try simp only [Act.put, List.setIfInBounds_toArray, List.set_cons_zero, List.set_cons_succ])
  refine wpAnyG_take 5 (v := ?_) (fun _ => trivial) (by simp only [List.getElem?_toArray, List.getElem?_cons_succ, List.getElem?_cons_zero]; rfl) (by kernel_rfl) (fun _ _ _ _ _ h => h) ⟨(by rfl), (by intro c h; cases h), ?_⟩ hHeld ?_
  rotate_left
  focus (intro wS hSw; (try replace hSw := HSF.out wS hSw); (try dsimp only at hSw); go_simp; (try with_reducible rfl))
  (try simp only [Act.put, List.setIfInBounds_toArray, List.set_cons_zero, List.set_cons_succ])
  refine wpAnyG_pure 7 (v := ?_) (fun _ => trivial) (by simp only [List.getElem?_toArray, List.getElem?_cons_succ, List.getElem?_cons_zero]; rfl) (by kernel_rfl) (fun _ _ _ _ _ h => h) ⟨(by rfl), (by intro c h; cases h), ?_⟩ hHeld ?_
  rotate_left
  focus (intro wS hSw; (try replace hSw := HSF.out wS hSw); (try dsimp only at hSw); go_simp; (try with_reducible rfl))
  (try simp only [Act.put, List.setIfInBounds_toArray, List.set_cons_zero, List.set_cons_succ])
  refine wpAnyS_ready [6] (by kernel_rfl) (by simp) (AllReadyS.consG (by simp only [List.getElem?_toArray, List.getElem?_cons_succ, List.getElem?_cons_zero]; rfl) (by rfl) (fun K hK => ?_) AllReadyS.nil)
  refine callV (R := fun u w' => ∃ (Al : Option Addr) (cl : Nat), u = .slice Al (pickN bo N).length cl ∧ SlR w' w'.heap.size Al (pickN bo N) ∧ Below wd3.heap.size wd3 w') (by intro c h; cases h) (by go_simp; try with_reducible rfl) ((HPK.out bo wd3).mono (fun e w' ⟨A', c', he, hs, hb⟩ => ⟨_, he, A', c', rfl, hs, hb⟩)) ?_
  rintro u wp ⟨Al, cl, rfl, hsl, hbl⟩
  have BP3 := hid (BD3.out.trans (hbl.mono BD3.out.size))
  have SP3 := hid hsl
  have WP3 := hid (WD3.out.trans (hbl.mono WD3.out.size))
  refine hK.out _ _ BP3.out ?_
  (try simp only [Act.put, List.setIfInBounds_toArray, List.set_cons_zero, List.set_cons_succ])
  clear hK K hHeld hsl hbl
  have hHeld := BP3.out
  refine wpAnyS_ready [8] (by kernel_rfl) (by simp) (AllReadyS.consG (by simp only [List.getElem?_toArray, List.getElem?_cons_succ, List.getElem?_cons_zero]; rfl) (by rfl) (fun K hK => ?_) AllReadyS.nil)
  refine callV (R := fun u w' => ∃ (Al : Option Addr) (cl : Nat) (r : List Int), u = .slice Al r.length cl ∧ LargeL N T trap (pickN bo N) r ∧ r.length ≤ cl ∧ cl ≤ maxLen ∧ SlR w' w'.heap.size Al r ∧ Below wp.heap.size wp w') (by intro c h; cases h) (by go_simp; try with_reducible rfl) ((HLG.out _ Al cl wp BP3.out SP3.out (by have := pickN_len bo N; unfold maxLen; omega)).mono (fun e w' ⟨A', c', r, he, h1, h2, h3, hs, hb⟩ => ⟨_, he, A', c', r, rfl, h1, h2, h3, hs, hb⟩)) ?_
  rintro u wl3 ⟨AL3, cL3, r3, rfl, hlg, hc1, hc2, hsl, hbl⟩
  have BL3 := hid (BP3.out.trans (hbl.mono BP3.out.size))
  have SL3 := hid hsl
  have LG3 := hid hlg
  have LC3 := hid (And.intro hc1 hc2)
  have WL3 := hid (WP3.out.trans (hbl.mono WP3.out.size))
  refine hK.out _ _ BL3.out ?_
  (try simp only [Act.put, List.setIfInBounds_toArray, List.set_cons_zero, List.set_cons_succ])
  clear hK K hHeld hsl hbl hlg hc1 hc2 SP3
  have hHeld := BL3.out
  refine wpAnyG_pure 9 (v := ?_) (fun _ => trivial) (by simp only [List.getElem?_toArray, List.getElem?_cons_succ, List.getElem?_cons_zero]; rfl) (by kernel_rfl) (fun _ _ _ _ _ h => h) ⟨(by rfl), (by intro c h; cases h), ?_⟩ hHeld ?_
  rotate_left
  focus (intro wS hSw; (try replace hSw := HSF.out wS hSw); (try dsimp only at hSw); go_simp; (try with_reducible rfl))
  (try simp only [Act.put, List.setIfInBounds_toArray, List.set_cons_zero, List.set_cons_succ])
  refine wpAnyS_done (by kernel_rfl) ?_
  clear hHeld BP3 BD3 WD3 WP3
  have UR := hid (unions_plain (two := two) (by omega) HOK.out LG1.out LG2.out (by rw [hbo]; exact LG3.out))
  clear hbo hor LG1 LG2 LG3
  have BL13 := hid (show Below w2.heap.size w2 wl3 from BL3.out)
  have WL13 := hid (WL2.out.trans (WL3.out.mono WL2.out.size))
  have HX := hid (fun (W : World) (hW : Below wl3.heap.size wl3 W) => show W.cell? ⟨w.heap.size, 0, none⟩ = some (.int .i64 (N : Nat)) ∧ W.cell? ⟨w.heap.size, 1, none⟩ = some (.slice A T.length c) ∧ w.heap.size < W.heap.size from
    ⟨(HSF.out W (BL13.out.trans (hW.mono BL13.out.size))).1, (HSF.out W (BL13.out.trans (hW.mono BL13.out.size))).2, by have h1 := BL13.out.size; have h2 := hW.size; omega⟩)
  have HS1 := hid (fun (W : World) (hW : Below wl3.heap.size wl3 W) => show SlR W W.heap.size AL1 r1 from (SL1.out.below (WL13.out.trans (hW.mono WL13.out.size))).more (WL13.out.trans (hW.mono WL13.out.size)).size)
  have HS2 := hid (fun (W : World) (hW : Below wl3.heap.size wl3 W) => show SlR W W.heap.size AL2 r2 from (SL2.out.below (WL3.out.trans (hW.mono WL3.out.size))).more (WL3.out.trans (hW.mono WL3.out.size)).size)
  have HS3 := hid (fun (W : World) (hW : Below wl3.heap.size wl3 W) => show SlR W W.heap.size AL3 r3 from (SL3.out.below hW).more hW.size)
  have HM1 := hid (fun (k : Nat) (hk : k ≤ 12) (gb : Nat) (W : World) (hW : Below wl3.heap.size wl3 W) (hb : Blk W gb 3 #[.int .i64 (k : Nat)]) => show Calls Tryd.prog 18 #[.slice (some ⟨gb, 0, none⟩) 1 1, .slice AL1 r1.length cL1] W fun e w' => e = .returned (.bool (meetsN [(k : Int)] r1)) ∧ Below W.heap.size W w' from
    meets_any (some ⟨gb, 0, none⟩) AL1 1 cL1 [(k : Int)] r1 W (by simp [maxLen]) (Nat.le_trans LC1.out.1 LC1.out.2) (slr_ints (l := [(k : Int)]) hb (by intro y hy; simp at hy; omega)) (HS1.out W hW))
  have HM2 := hid (fun (k : Nat) (hk : k ≤ 12) (gb : Nat) (W : World) (hW : Below wl3.heap.size wl3 W) (hb : Blk W gb 3 #[.int .i64 (k : Nat)]) => show Calls Tryd.prog 18 #[.slice (some ⟨gb, 0, none⟩) 1 1, .slice AL2 r2.length cL2] W fun e w' => e = .returned (.bool (meetsN [(k : Int)] r2)) ∧ Below W.heap.size W w' from
    meets_any (some ⟨gb, 0, none⟩) AL2 1 cL2 [(k : Int)] r2 W (by simp [maxLen]) (Nat.le_trans LC2.out.1 LC2.out.2) (slr_ints (l := [(k : Int)]) hb (by intro y hy; simp at hy; omega)) (HS2.out W hW))
  clear SL1 SL2 SL3 X2 x0 x1 xz HSF B3 BD
  go_upto_region 9 with fail
  go_loopw [13, 14] (fun v i wr => ∃ (k : Nat) (A9 : Option Addr) (c9 : Nat), k ≤ N ∧ i = .int .i64 k ∧ v = .slice A9 (bothN r1 r2 k).length c9 ∧ OwnI wr wl3.heap.size (.slice A9 (bothN r1 r2 k).length c9) (bothN r1 r2 k) ∧ Below wl3.heap.size wl3 wr) (fun _ i _ => N - (intOf i).toNat)
  case atStart => exact ⟨0, none, 0, by omega, rfl, rfl, OwnI.nil _ _, Below.refl _ _⟩
  case round =>
    obtain ⟨k, A9, c9, hk, rfl, rfl, ho, hB⟩ := hrel
    have HO := hid ho
    have HB := hid hB
    obtain ⟨x0, x1, xz2⟩ := HX.out wr hB
    clear ho hB
    by_cases hlt : k < N
    · have hlt' : (k : Int) < N := by omega
      have hsu := hid (bothN_succ r1 r2 k)
      have hlk := bothN_len r1 r2 k
      have HMA := hid (HM1.out k (by omega))
      have HMB := hid (HM2.out k (by omega))
      generalize bothN r1 r2 k = L at *
      generalize meetsN [(k : Int)] r1 = q1 at *
      generalize meetsN [(k : Int)] r2 = q2 at *
      go_upto_region 11 with fail
      go_wp2_with fail
      refine (HMA.out _ _ (HB.out.alloc HB.out.size _) (Blk.new _ _ _)).mono ?_
      rintro e w5 ⟨rfl, hB5⟩
      have HB5 := hid (show Below wr.heap.size wr w5 from ((Below.refl _ _).alloc (Nat.le_refl _) _).trans (hB5.mono (by simp)))
      have B5 := hid (HB.out.trans (HB5.out.mono HB.out.size))
      have HO5 := hid (HO.out.below HB5.out)
      clear hB5 HB5 x0 x1 xz2 HMA
      obtain ⟨x0, _, xz2⟩ := HX.out w5 B5.out
      cases q1 with
      | true =>
        have hsu2 := hid (show bothN r1 r2 (k + 1) = L ++ [(k : Int)] by rw [hsu.out]; simp)
        as_aux_lemma =>
          go_upto_region 12 with fail
          have hX := hid (Blk.new w5 3 #[.int .i64 (k : Nat)])
          have hcell := hX.out.cell 0
          simp only [List.getElem?_toArray, List.getElem?_cons_zero] at hcell
          have hcl := hid hcell
          have hbase := hid (B5.out.size)
          clear hcell
          go_wp2_with (at_builtin; refine wp_appK _ rfl (.tmp 74) (.tmp 76) rfl wl3.heap.size (.slice A9 L.length c9) L rfl (HO5.out.alloc _) _ 1 (k : Nat) rfl hcl.out (by omega) (by have := hbase.out; simp; omega) ?_; intro A8 c8 w9 ho9 hg9 hd9)
          have B9 := hid (show Below wl3.heap.size wl3 w9 from (B5.out.alloc B5.out.size _).grown hg9 (by have := hbase.out; simp; omega) (fun g hg => (HO5.out.lt g hg).1))
          have HO9 := hid ho9
          clear ho9 hg9 hd9 x0 xz2
          obtain ⟨x0, _, xz2⟩ := HX.out w9 B9.out
          go_wp2_with fail
          go_roundw
          case rel => exact ⟨k + 1, A8, c8, by omega, by go_num, by rw [hsu2.out]; simp, by rw [hsu2.out]; simpa using HO9.out, B9.out⟩
          case measure => simp [intOf]; omega
      | false =>
        go_wp2_with fail
        refine (HMB.out _ _ (B5.out.alloc B5.out.size _) (Blk.new _ _ _)).mono ?_
        rintro e w6 ⟨rfl, hB6⟩
        have HB6 := hid (show Below w5.heap.size w5 w6 from ((Below.refl _ _).alloc (Nat.le_refl _) _).trans (hB6.mono (by simp)))
        have B6 := hid (B5.out.trans (HB6.out.mono B5.out.size))
        have HO6 := hid (HO5.out.below HB6.out)
        clear hB6 HB6 x0 xz2 HMB
        obtain ⟨x0, _, xz2⟩ := HX.out w6 B6.out
        cases q2 with
        | true =>
          have hsu2 := hid (show bothN r1 r2 (k + 1) = L ++ [(k : Int)] by rw [hsu.out]; simp)
          as_aux_lemma =>
            go_upto_region 12 with fail
            have hX := hid (Blk.new w6 3 #[.int .i64 (k : Nat)])
            have hcell := hX.out.cell 0
            simp only [List.getElem?_toArray, List.getElem?_cons_zero] at hcell
            have hcl := hid hcell
            have hbase := hid (B6.out.size)
            clear hcell
            go_wp2_with (at_builtin; refine wp_appK _ rfl (.tmp 74) (.tmp 76) rfl wl3.heap.size (.slice A9 L.length c9) L rfl (HO6.out.alloc _) _ 1 (k : Nat) rfl hcl.out (by omega) (by have := hbase.out; simp; omega) ?_; intro A8 c8 w9 ho9 hg9 hd9)
            have B9 := hid (show Below wl3.heap.size wl3 w9 from (B6.out.alloc B6.out.size _).grown hg9 (by have := hbase.out; simp; omega) (fun g hg => (HO6.out.lt g hg).1))
            have HO9 := hid ho9
            clear ho9 hg9 hd9 x0 xz2
            obtain ⟨x0, _, xz2⟩ := HX.out w9 B9.out
            go_wp2_with fail
            go_roundw
            case rel => exact ⟨k + 1, A8, c8, by omega, by go_num, by rw [hsu2.out]; simp, by rw [hsu2.out]; simpa using HO9.out, B9.out⟩
            case measure => simp [intOf]; omega
        | false =>
          have hsu2 := hid (show bothN r1 r2 (k + 1) = L by rw [hsu.out]; simp)
          as_aux_lemma =>
            go_wp2_with fail
            go_roundw
            case rel => exact ⟨k + 1, A9, c9, by omega, by go_num, by rw [hsu2.out], by rw [hsu2.out]; exact HO6.out, B6.out⟩
            case measure => simp [intOf]; omega
    · obtain rfl : k = N := by omega
      have LC13 := LC1.out; have LC23 := LC2.out; have LC33 := LC3.out
      have HI := hid (fun (tr : Bool) (W : World) (hW : Below wl3.heap.size wl3 W) (A7 : Option Addr) (c7 : Nat) (s : List Int) (hs : s.length ≤ maxLen) (hS : SlR W W.heap.size A7 s) => show (tr = false → Calls Tryd.prog 12 #[.agg #[.int .i64 (k : Nat), .slice A T.length c], .slice A7 s.length c7] W fun e w' => e = .returned (.bool (isN k T false s)) ∧ Below W.heap.size W w') ∧ (tr = true → Calls Tryd.prog 16 #[.agg #[.int .i64 (k : Nat), .slice A T.length c], .slice A7 s.length c7] W fun e w' => e = .returned (.bool (isN k T true s)) ∧ Below W.heap.size W w') from
        ⟨fun _ => siphon_any (k : Int) A c T A7 c7 s W hl2.out (HT.out W (BL13.out.trans (hW.mono BL13.out.size))) hs hS HOK.out, fun _ => trap_any (k : Int) A c T A7 c7 s W hl2.out (HT.out W (BL13.out.trans (hW.mono BL13.out.size))) hs hS HOK.out⟩)
      have HWI := hid (fun (A7 A6 : Option Addr) (c7 c6 : Nat) (a b : List Int) (W : World) (h1 : a.length ≤ c7) (h2 : c7 ≤ maxLen) (h3 : b.length ≤ maxLen) (s1 : SlR W W.heap.size A7 a) (s2 : SlR W W.heap.size A6 b) (ht : withinN a b = true) => show Calls Tryd.prog 17 #[.slice A7 a.length c7, .slice A6 b.length c6] W fun e w' => e = .returned (.bool true) ∧ Below W.heap.size W w' from by
        have := within_any A7 A6 c7 c6 a b W h1 h2 h3 s1 s2
        rw [ht] at this
        exact this)
      have hpl := hid (show (pickN one k).length ≤ 12 by have := pickN_len one k; omega)
      have LCa := hid LC13; have LCb := hid LC23; have LCc := hid LC33
      have HBO := hid (bothN_len r1 r2 k)
      have hb3 : (bothN r1 r2 k).length ≤ 12 := by have := bothN_len r1 r2 k; omega
      obtain ⟨A10, c10, e10, g1, g2, SB⟩ := HO.out.slr (fun x hx => by have := bothN_mem.1 hx; exact i64s x (by omega))
      injection e10 with e10 _ e11
      have HSB := hid (show ∀ W, Below wr.heap.size wr W → SlR W W.heap.size A9 (bothN r1 r2 k) from fun W hW => by rw [e10]; exact (SB.below hW).more hW.size)
      have HCB := hid (show (bothN r1 r2 k).length ≤ c9 ∧ c9 ≤ maxLen from by rw [e11]; exact ⟨g1, g2⟩)
      clear LC13 LC23 LC33 LC1 LC2 LC3 HO e10 e11 g1 g2 SB hn0 hn12 hN12 hlt hk
      have B0 := hid (Below.refl wr.heap.size wr)
      have HXr := hid (fun (W : World) (hW : Below wr.heap.size wr W) => HX.out W (HB.out.trans (hW.mono HB.out.size)))
      have HTr := hid (fun (W : World) (hW : Below wr.heap.size wr W) => HB.out.trans (hW.mono HB.out.size))
      have UR1 := hid UR.out.w1; have UR2 := hid UR.out.w2; have UR3 := hid UR.out.w3; have UR4 := hid UR.out.w4; have UR5 := hid UR.out.w5; have UR6 := hid UR.out.w6
      clear UR
      generalize bothN r1 r2 k = BO at *
      go_wp2_with fail
      refine (HPK.out one wr).mono ?_
      rintro e v1 ⟨Ap, cp, rfl, hsp, hB1⟩
      have B1 := hid hB1
      have SP := hid hsp
      clear hB1 hsp x0 x1 xz2
      obtain ⟨x0, x1, xz2⟩ := HXr.out v1 B1.out
      go_wp2_with fail
      refine (HWI.out AL1 Ap cL1 cp r1 _ v1 LCa.out.1 LCa.out.2 (by have := hpl.out; unfold maxLen; omega) (HS1.out _ (HTr.out _ B1.out)) SP.out UR1.out).mono ?_
      rintro e v2 ⟨rfl, hB2⟩
      have B2' := hid (B1.out.trans (hB2.mono B1.out.size))
      clear hB2 x0 x1 xz2
      obtain ⟨x0, x1, xz2⟩ := HXr.out v2 B2'.out
      go_wp2_with fail
      refine (HWI.out AL1 AL3 cL1 cL3 r1 r3 v2 LCa.out.1 LCa.out.2 (Nat.le_trans LCc.out.1 LCc.out.2) (HS1.out _ (HTr.out _ B2'.out)) (HS3.out _ (HTr.out _ B2'.out)) UR2.out).mono ?_
      rintro e v3 ⟨rfl, hB2⟩
      have B3' := hid (B2'.out.trans (hB2.mono B2'.out.size))
      clear hB2 x0 x1 xz2
      obtain ⟨x0, x1, xz2⟩ := HXr.out v3 B3'.out
      go_wp2_with fail
      refine (HWI.out AL2 AL3 cL2 cL3 r2 r3 v3 LCb.out.1 LCb.out.2 (Nat.le_trans LCc.out.1 LCc.out.2) (HS2.out _ (HTr.out _ B3'.out)) (HS3.out _ (HTr.out _ B3'.out)) UR3.out).mono ?_
      rintro e v4 ⟨rfl, hB2⟩
      have B4' := hid (B3'.out.trans (hB2.mono B3'.out.size))
      clear hB2 x0 x1 xz2
      obtain ⟨x0, x1, xz2⟩ := HXr.out v4 B4'.out
      go_wp2_with fail
      refine (HLG.out r1 AL1 cL1 v4 (BL13.out.trans ((HTr.out _ B4'.out).mono BL13.out.size)) (HS1.out _ (HTr.out _ B4'.out)) (Nat.le_trans LCa.out.1 LCa.out.2)).mono ?_
      rintro e v5 ⟨Aq, cq, rq, rfl, hlg, hq1, hq2, hsq, hB2⟩
      obtain rfl : rq = r1 := UR4.out rq hlg
      have SQ := hid hsq
      have hrl := hid (Nat.le_trans hq1 hq2)
      have B5' := hid (B4'.out.trans (hB2.mono B4'.out.size))
      clear hB2 hlg hq1 hq2 hsq x0 x1 xz2
      obtain ⟨x0, x1, xz2⟩ := HXr.out v5 B5'.out
      go_wp2_with fail
      refine (same_any Aq AL1 cq cL1 rq rq v5 hrl.out hrl.out SQ.out (HS1.out _ (HTr.out _ B5'.out))).mono ?_
      rintro e v6 ⟨rfl, hB2⟩
      have B6' := hid (B5'.out.trans (hB2.mono B5'.out.size))
      clear hB2 x0 x1 xz2
      obtain ⟨x0, x1, xz2⟩ := HXr.out v6 B6'.out
      simp only [decide_true]
      go_upto_region 15 with fail
      have HCal := hid (fun (W : World) (hW : Below wr.heap.size wr W) => And.intro ((HI.out false W (HTr.out _ hW) A9 c9 BO (Nat.le_trans HCB.out.1 HCB.out.2) (HSB.out W hW)).1 rfl) ((HI.out true W (HTr.out _ hW) A9 c9 BO (Nat.le_trans HCB.out.1 HCB.out.2) (HSB.out W hW)).2 rfl))
      have HW6 := hid (fun (W : World) (hW : Below wr.heap.size wr W) => HWI.out A9 AL3 c9 cL3 BO r3 W HCB.out.1 HCB.out.2 (Nat.le_trans LCc.out.1 LCc.out.2) (HSB.out W hW) (HS3.out _ (HTr.out _ hW)) UR6.out)
      have HBF := hid (fun (W : World) (hW : Below wr.heap.size wr W) => show Below w.heap.size w W from B2.out.trans ((BL13.out.trans ((HTr.out W hW).mono BL13.out.size)).mono B2.out.size))
      by_cases hbo : BO = []
      · subst hbo
        have HC1 := hid (fun (W : World) (hW : Below wr.heap.size wr W) => show Calls Tryd.prog 12 #[.agg #[.int .i64 (k : Nat), .slice A T.length c], .slice A9 0 c9] W fun e w' => e = .returned (.bool false) ∧ Below W.heap.size W w' from by
          have := (HCal.out W hW).1
          rw [isN_nil] at this
          exact this)
        have HC2 := hid (fun (W : World) (hW : Below wr.heap.size wr W) => show Calls Tryd.prog 16 #[.agg #[.int .i64 (k : Nat), .slice A T.length c], .slice A9 0 c9] W fun e w' => e = .returned (.bool false) ∧ Below W.heap.size W w' from by
          have := (HCal.out W hW).2
          rw [isN_nil] at this
          exact this)
        simp only [List.length_nil] at hb3 ⊢
        clear HCal HW6 UR5 UR6
        go_wp2_with fail
        refine (HC1.out v6 B6'.out).mono ?_
        rintro e v7 ⟨rfl, hB2⟩
        have B7' := hid (B6'.out.trans (hB2.mono B6'.out.size))
        clear hB2 x0 x1 xz2
        obtain ⟨x0, x1, xz2⟩ := HXr.out v7 B7'.out
        go_wp2_with fail
        refine (HC2.out v7 B7'.out).mono ?_
        rintro e v8 ⟨rfl, hB2⟩
        have B8' := hid (B7'.out.trans (hB2.mono B7'.out.size))
        clear hB2 x0 x1 xz2
        go_wp2_with fail
        go_ret
        exact ⟨rfl, HBF.out _ B8'.out⟩
      · have hbl : ¬ ((BO.length : Int) = 0) := by
          have : BO.length ≠ 0 := fun e => hbo (List.eq_nil_of_length_eq_zero e)
          omega
        have hU := hid (UR5.out hbo)
        clear hbo
        cases trap with
        | true =>
          have HC2 := hid (fun (W : World) (hW : Below wr.heap.size wr W) => show Calls Tryd.prog 16 #[.agg #[.int .i64 (k : Nat), .slice A T.length c], .slice A9 BO.length c9] W fun e w' => e = .returned (.bool true) ∧ Below W.heap.size W w' from by
            have := (HCal.out W hW).2
            rw [hU.out] at this
            exact this)
          clear HCal
          go_wp2_with fail
          refine (HC2.out v6 B6'.out).mono ?_
          rintro e v7 ⟨rfl, hB2⟩
          have B7' := hid (B6'.out.trans (hB2.mono B6'.out.size))
          clear hB2 x0 x1 xz2
          go_wp2_with fail
          refine (HW6.out v7 B7'.out).mono ?_
          rintro e v8 ⟨rfl, hB2⟩
          have B8' := hid (B7'.out.trans (hB2.mono B7'.out.size))
          clear hB2
          go_wp2_with fail
          go_ret
          exact ⟨rfl, HBF.out _ B8'.out⟩
        | false =>
          have HC2 := hid (fun (W : World) (hW : Below wr.heap.size wr W) => show Calls Tryd.prog 12 #[.agg #[.int .i64 (k : Nat), .slice A T.length c], .slice A9 BO.length c9] W fun e w' => e = .returned (.bool true) ∧ Below W.heap.size W w' from by
            have := (HCal.out W hW).1
            rw [hU.out] at this
            exact this)
          clear HCal
          go_wp2_with fail
          refine (HC2.out v6 B6'.out).mono ?_
          rintro e v7 ⟨rfl, hB2⟩
          have B7' := hid (B6'.out.trans (hB2.mono B6'.out.size))
          clear hB2 x0 x1 xz2
          go_wp2_with fail
          refine (HW6.out v7 B7'.out).mono ?_
          rintro e v8 ⟨rfl, hB2⟩
          have B8' := hid (B7'.out.trans (hB2.mono B7'.out.size))
          clear hB2
          go_wp2_with fail
          go_ret
          exact ⟨rfl, HBF.out _ B8'.out⟩
end Go.Proofs.YtbbogflibekgfaaDoor
