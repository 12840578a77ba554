
/- Layouts, shifts: where a number stands in a region; Compact of a list without doubles; neighbours differ. -/
import Derived.Test.YtbelaeellcnpmaaLshSi
import Derived.Test.YtbelaeellcnpmaaLshB
set_option linter.unusedSimpArgs false
set_option linter.unusedVariables false
namespace Go.Proofs.Ytbelaeellcnpmaa
open Go.RowKit Go.IntWalk Go.Shelf

theorem count_at : ∀ {r : List Int}, r.Pairwise (· < ·) → ∀ k (hk : k < r.length), r.countP (fun y => decide (y < r[k])) = k
  | x :: r, h, 0, _ => by
    obtain ⟨h1, _⟩ := List.pairwise_cons.1 h
    simp only [List.getElem_cons_zero]
    rw [List.countP_eq_zero]
    intro y hy
    rcases List.mem_cons.1 hy with rfl | hy
    · simp
    · have := h1 y hy; simp; omega
  | x :: r, h, k + 1, hk => by
    obtain ⟨h1, h2⟩ := List.pairwise_cons.1 h
    have ih := count_at h2 k (by simpa using hk)
    simp only [List.getElem_cons_succ]
    rw [List.countP_cons_of_pos (by simpa using h1 _ (List.getElem_mem (by simpa using hk))), ih]
/-- slices.BinarySearch over a region. -/
theorem bs_any (A : Option Addr) (c : Nat) (r : List Int) (x : Int) (w : World) (hl : r.length ≤ 24) (h : SlR w w.heap.size A r) (hp : r.Pairwise (· < ·)) :
    Calls Try.prog 27 #[.slice A r.length c, .int .i64 x] w fun e w' => e = .returned (.tuple #[.int .i64 (r.countP (fun y => decide (y < x)) : Nat), .bool (r.contains x)]) ∧ Below w.heap.size w w' := by
  by_cases h0 : 0 < r.length
  · obtain ⟨b, off, rfl, _⟩ := h.int h0
    have := Any.slices_BinarySearch_int laysBs b off r.length c r x w (Nat.le_refl _) (by omega) (fun j hj => by
      rw [h.int_at hj, List.getD_eq_getElem?_getD, List.getElem?_eq_getElem hj]; rfl) (by rw [List.take_length]; exact hp.imp (fun h => by omega))
    rw [List.take_length] at this
    exact this.mono (fun e w' ⟨he, q, hq⟩ => ⟨he, hq ▸ below_drewN (Below.refl _ _) q⟩)
  · have e : r = [] := List.eq_nil_of_length_eq_zero (by omega)
    subst e
    exact (Any.slices_BinarySearch_int_empty laysBs A c x w).mono (fun e w' ⟨he, hq⟩ => ⟨by rw [he]; rfl, hq ▸ Below.refl _ _⟩)
set_option maxRecDepth 100000 in
set_option maxHeartbeats 4000000 in
/-- slices.Compact of a list in which no element stands twice in a row: the list itself. -/
theorem compact_any (A : Option Addr) (c : Nat) (l : List Sh) (w : World) (hl : l.length ≤ 1000000) (h : SlR w w.heap.size A l) (hd : l.Nodup) :
    Calls Try.prog 30 #[.slice A l.length c] w fun e w' => e = .returned (.slice A l.length c) ∧ Below w.heap.size w w' := by
  by_cases h2 : l.length < 2
  · have h2i : (l.length : Int) < 2 := by omega
    go_enter Try.func30, Try.ntmps30
    go_wp2_with fail
    go_ret
    exact ⟨rfl, Below.refl _ _⟩
  have h2i : ¬ (l.length : Int) < 2 := by omega
  have HD := hid hd
  have H := hid h
  clear hd h
  go_enter Try.func30, Try.ntmps30
  go_upto_region 4 with fail
  go_loopw [3] (fun v wr => ∃ i : Nat, 1 ≤ i ∧ i ≤ l.length ∧ v = .int .i64 (i : Nat) ∧ Below w.heap.size w wr) (fun v _ => l.length - (intOf v).toNat)
  case atStart => exact ⟨1, by omega, by omega, rfl, Below.refl _ _⟩
  case round =>
    obtain ⟨i, hi1, hi, rfl, hB⟩ := hrel
    have HB := hid hB
    clear hB
    by_cases hlt : i < l.length
    · have hlt' : (i : Int) < l.length := by omega
      obtain ⟨j, hj⟩ : ∃ j, i = j + 1 := ⟨i - 1, by omega⟩
      have hlk : (j : Int) < l.length := by omega
      have hjl : j < l.length := by omega
      obtain ⟨b, off, hA, hb, g0, g1, -, -⟩ := H.out.sh hlt
      obtain ⟨b', off', hA', hb', p0, p1, -, -⟩ := H.out.sh hjl
      rw [hA] at hA'
      injection hA' with hA'
      injection hA' with e1 e2 _
      subst e1 e2 hA
      have hne : l[i] ≠ l[j] := fun e => by
        have := (List.pairwise_iff_getElem.1 HD.out) j i hjl hlt (by omega)
        exact this e.symm
      replace g0 := (bcell HB.out _ _ hb).trans g0
      replace g1 := (bcell HB.out _ _ hb).trans g1
      replace p0 := (bcell HB.out _ _ hb).trans p0
      replace p1 := (bcell HB.out _ _ hb).trans p1
      have hz : b < wr.heap.size := by have := HB.out.size; omega
      have hsub : IntKind.i64.wrap ((i : Int) - 1) = (j : Int) := by rw [IntKind.wrap_i64]; omega
      have HJ := hid hj
      have HI1 := hid hi1
      clear hj hi1
      generalize l[i] = y at *
      generalize l[j] = x at *
      obtain ⟨y1, y2⟩ := y
      obtain ⟨x1, x2⟩ := x
      simp only at g0 g1 p0 p1
      have HNE := hid hne
      clear hne
      have HSF := hid (fun (wq : World) (hq : Below wr.heap.size wr wq) => And.intro ((bcell hq _ _ hz).trans g0) (And.intro ((bcell hq _ _ hz).trans g1) (And.intro ((bcell hq _ _ hz).trans p0) ((bcell hq _ _ hz).trans p1))))
      have BD := hid ((Below.refl wr.heap.size wr).drew)
      go_upto_region 6 with fail
      refine wpIn_wide.1 (wpIn_region_S (n := 0) (fun wq => Below wr.heap.size wr wq) [] (by kernel_rfl) BD.out (fun hHeld => ?_))
      generalize wr.drew = wd at *
      by_cases e1 : y1 = x1
      · have e2 : ¬ y2 = x2 := fun e => HNE.out (by rw [e1, e])
        subst e1
        refine wpAnyG_pure 0 (v := ?_) (fun _ => trivial) (by simp only [List.getElem?_toArray, List.getElem?_cons_succ, List.getElem?_cons_zero]; rfl) (by kernel_rfl) (fun _ _ _ _ _ h => h) ⟨(by rfl), (by intro c h; cases h), ?_⟩ hHeld ?_
        rotate_left
        focus (intro wS hSw; (try replace hSw := HSF.out wS hSw); (try dsimp only at hSw); go_simp; (try with_reducible rfl))
        (try simp only [Act.put, List.setIfInBounds_toArray, List.set_cons_zero, List.set_cons_succ])
        refine wpAnyG_pure 1 (v := ?_) (fun _ => trivial) (by simp only [List.getElem?_toArray, List.getElem?_cons_succ, List.getElem?_cons_zero]; rfl) (by kernel_rfl) (fun _ _ _ _ _ h => h) ⟨(by rfl), (by intro c h; cases h), ?_⟩ hHeld ?_
        rotate_left
        focus (intro wS hSw; (try replace hSw := HSF.out wS hSw); (try dsimp only at hSw); go_simp; (try with_reducible rfl))
        (try simp only [Act.put, List.setIfInBounds_toArray, List.set_cons_zero, List.set_cons_succ])
        refine wpAnyG_pure 2 (v := ?_) (fun _ => trivial) (by simp only [List.getElem?_toArray, List.getElem?_cons_succ, List.getElem?_cons_zero]; rfl) (by kernel_rfl) (fun _ _ _ _ _ h => h) ⟨(by rfl), (by intro c h; cases h), ?_⟩ hHeld ?_
        rotate_left
        focus (intro wS hSw; (try replace hSw := HSF.out wS hSw); (try dsimp only at hSw); go_simp; (try with_reducible rfl))
        (try simp only [Act.put, List.setIfInBounds_toArray, List.set_cons_zero, List.set_cons_succ])
        refine wpAnyG_take 3 (v := ?_) (fun _ => trivial) (by simp only [List.getElem?_toArray, List.getElem?_cons_succ, List.getElem?_cons_zero]; rfl) (by kernel_rfl) (fun _ _ _ _ _ h => h) ⟨(by rfl), (by intro c h; cases h), ?_⟩ hHeld ?_
        rotate_left
        focus (intro wS hSw; (try replace hSw := HSF.out wS hSw); (try dsimp only at hSw); go_simp; (try with_reducible rfl))
        (try simp only [Act.put, List.setIfInBounds_toArray, List.set_cons_zero, List.set_cons_succ])
        refine wpAnyG_pure 4 (v := ?_) (fun _ => trivial) (by simp only [List.getElem?_toArray, List.getElem?_cons_succ, List.getElem?_cons_zero]; rfl) (by kernel_rfl) (fun _ _ _ _ _ h => h) ⟨(by rfl), (by intro c h; cases h), ?_⟩ hHeld ?_
        rotate_left
        focus (intro wS hSw; (try replace hSw := HSF.out wS hSw); (try dsimp only at hSw); go_simp; (try with_reducible rfl))
        (try simp only [Act.put, List.setIfInBounds_toArray, List.set_cons_zero, List.set_cons_succ])
        refine wpAnyG_pure 5 (v := ?_) (fun _ => trivial) (by simp only [List.getElem?_toArray, List.getElem?_cons_succ, List.getElem?_cons_zero]; rfl) (by kernel_rfl) (fun _ _ _ _ _ h => h) ⟨(by rfl), (by intro c h; cases h), ?_⟩ hHeld ?_
        rotate_left
        focus (intro wS hSw; (try replace hSw := HSF.out wS hSw); (try dsimp only at hSw); go_simp; (try with_reducible rfl))
        (try simp only [Act.put, List.setIfInBounds_toArray, List.set_cons_zero, List.set_cons_succ])
        refine wpAnyG_pure 6 (v := ?_) (fun _ => trivial) (by simp only [List.getElem?_toArray, List.getElem?_cons_succ, List.getElem?_cons_zero]; rfl) (by kernel_rfl) (fun _ _ _ _ _ h => h) ⟨(by rfl), (by intro c h; cases h), ?_⟩ hHeld ?_
        rotate_left
        focus (intro wS hSw; (try replace hSw := HSF.out wS hSw); (try dsimp only at hSw); go_simp; (try with_reducible rfl))
        (try simp only [Act.put, List.setIfInBounds_toArray, List.set_cons_zero, List.set_cons_succ])
        refine wpAnyG_pure 7 (v := ?_) (fun _ => trivial) (by simp only [List.getElem?_toArray, List.getElem?_cons_succ, List.getElem?_cons_zero]; rfl) (by kernel_rfl) (fun _ _ _ _ _ h => h) ⟨(by rfl), (by intro c h; cases h), ?_⟩ hHeld ?_
        rotate_left
        focus (intro wS hSw; (try replace hSw := HSF.out wS hSw); (try dsimp only at hSw); go_simp; (try with_reducible rfl))
        (try simp only [Act.put, List.setIfInBounds_toArray, List.set_cons_zero, List.set_cons_succ])
        refine wpAnyG_take 8 (v := ?_) (fun _ => trivial) (by simp only [List.getElem?_toArray, List.getElem?_cons_succ, List.getElem?_cons_zero]; rfl) (by kernel_rfl) (fun _ _ _ _ _ h => h) ⟨(by rfl), (by intro c h; cases h), ?_⟩ hHeld ?_
        rotate_left
        focus (intro wS hSw; (try replace hSw := HSF.out wS hSw); (try dsimp only at hSw); go_simp; (try with_reducible rfl))
        (try simp only [Act.put, List.setIfInBounds_toArray, List.set_cons_zero, List.set_cons_succ])
        refine wpAnyG_pure 9 (v := ?_) (fun _ => trivial) (by simp only [List.getElem?_toArray, List.getElem?_cons_succ, List.getElem?_cons_zero]; rfl) (by kernel_rfl) (fun _ _ _ _ _ h => h) ⟨(by rfl), (by intro c h; cases h), ?_⟩ hHeld ?_
        rotate_left
        focus (intro wS hSw; (try replace hSw := HSF.out wS hSw); (try dsimp only at hSw); go_simp; (try with_reducible rfl))
        (try simp only [Act.put, List.setIfInBounds_toArray, List.set_cons_zero, List.set_cons_succ])
        refine wpAnyS_done (by kernel_rfl) ?_
        clear hHeld HSF hsub
        have hi1 := HI1.out
        go_wp2_with fail
        go_roundw
        case rel => exact ⟨i + 1, by omega, by omega, by go_num, HB.out.trans (BD.out.mono HB.out.size)⟩
        case measure => simp [intOf]; omega
      · skip
        refine wpAnyG_pure 0 (v := ?_) (fun _ => trivial) (by simp only [List.getElem?_toArray, List.getElem?_cons_succ, List.getElem?_cons_zero]; rfl) (by kernel_rfl) (fun _ _ _ _ _ h => h) ⟨(by rfl), (by intro c h; cases h), ?_⟩ hHeld ?_
        rotate_left
        focus (intro wS hSw; (try replace hSw := HSF.out wS hSw); (try dsimp only at hSw); go_simp; (try with_reducible rfl))
        (try simp only [Act.put, List.setIfInBounds_toArray, List.set_cons_zero, List.set_cons_succ])
        refine wpAnyG_pure 1 (v := ?_) (fun _ => trivial) (by simp only [List.getElem?_toArray, List.getElem?_cons_succ, List.getElem?_cons_zero]; rfl) (by kernel_rfl) (fun _ _ _ _ _ h => h) ⟨(by rfl), (by intro c h; cases h), ?_⟩ hHeld ?_
        rotate_left
        focus (intro wS hSw; (try replace hSw := HSF.out wS hSw); (try dsimp only at hSw); go_simp; (try with_reducible rfl))
        (try simp only [Act.put, List.setIfInBounds_toArray, List.set_cons_zero, List.set_cons_succ])
        refine wpAnyG_pure 2 (v := ?_) (fun _ => trivial) (by simp only [List.getElem?_toArray, List.getElem?_cons_succ, List.getElem?_cons_zero]; rfl) (by kernel_rfl) (fun _ _ _ _ _ h => h) ⟨(by rfl), (by intro c h; cases h), ?_⟩ hHeld ?_
        rotate_left
        focus (intro wS hSw; (try replace hSw := HSF.out wS hSw); (try dsimp only at hSw); go_simp; (try with_reducible rfl))
        (try simp only [Act.put, List.setIfInBounds_toArray, List.set_cons_zero, List.set_cons_succ])
        refine wpAnyG_take 3 (v := ?_) (fun _ => trivial) (by simp only [List.getElem?_toArray, List.getElem?_cons_succ, List.getElem?_cons_zero]; rfl) (by kernel_rfl) (fun _ _ _ _ _ h => h) ⟨(by rfl), (by intro c h; cases h), ?_⟩ hHeld ?_
        rotate_left
        focus (intro wS hSw; (try replace hSw := HSF.out wS hSw); (try dsimp only at hSw); go_simp; (try with_reducible rfl))
        (try simp only [Act.put, List.setIfInBounds_toArray, List.set_cons_zero, List.set_cons_succ])
        refine wpAnyG_pure 4 (v := ?_) (fun _ => trivial) (by simp only [List.getElem?_toArray, List.getElem?_cons_succ, List.getElem?_cons_zero]; rfl) (by kernel_rfl) (fun _ _ _ _ _ h => h) ⟨(by rfl), (by intro c h; cases h), ?_⟩ hHeld ?_
        rotate_left
        focus (intro wS hSw; (try replace hSw := HSF.out wS hSw); (try dsimp only at hSw); go_simp; (try with_reducible rfl))
        (try simp only [Act.put, List.setIfInBounds_toArray, List.set_cons_zero, List.set_cons_succ])
        refine wpAnyG_pure 5 (v := ?_) (fun _ => trivial) (by simp only [List.getElem?_toArray, List.getElem?_cons_succ, List.getElem?_cons_zero]; rfl) (by kernel_rfl) (fun _ _ _ _ _ h => h) ⟨(by rfl), (by intro c h; cases h), ?_⟩ hHeld ?_
        rotate_left
        focus (intro wS hSw; (try replace hSw := HSF.out wS hSw); (try dsimp only at hSw); go_simp; (try with_reducible rfl))
        (try simp only [Act.put, List.setIfInBounds_toArray, List.set_cons_zero, List.set_cons_succ])
        refine wpAnyG_pure 6 (v := ?_) (fun _ => trivial) (by simp only [List.getElem?_toArray, List.getElem?_cons_succ, List.getElem?_cons_zero]; rfl) (by kernel_rfl) (fun _ _ _ _ _ h => h) ⟨(by rfl), (by intro c h; cases h), ?_⟩ hHeld ?_
        rotate_left
        focus (intro wS hSw; (try replace hSw := HSF.out wS hSw); (try dsimp only at hSw); go_simp; (try with_reducible rfl))
        (try simp only [Act.put, List.setIfInBounds_toArray, List.set_cons_zero, List.set_cons_succ])
        refine wpAnyG_pure 7 (v := ?_) (fun _ => trivial) (by simp only [List.getElem?_toArray, List.getElem?_cons_succ, List.getElem?_cons_zero]; rfl) (by kernel_rfl) (fun _ _ _ _ _ h => h) ⟨(by rfl), (by intro c h; cases h), ?_⟩ hHeld ?_
        rotate_left
        focus (intro wS hSw; (try replace hSw := HSF.out wS hSw); (try dsimp only at hSw); go_simp; (try with_reducible rfl))
        (try simp only [Act.put, List.setIfInBounds_toArray, List.set_cons_zero, List.set_cons_succ])
        refine wpAnyG_take 8 (v := ?_) (fun _ => trivial) (by simp only [List.getElem?_toArray, List.getElem?_cons_succ, List.getElem?_cons_zero]; rfl) (by kernel_rfl) (fun _ _ _ _ _ h => h) ⟨(by rfl), (by intro c h; cases h), ?_⟩ hHeld ?_
        rotate_left
        focus (intro wS hSw; (try replace hSw := HSF.out wS hSw); (try dsimp only at hSw); go_simp; (try with_reducible rfl))
        (try simp only [Act.put, List.setIfInBounds_toArray, List.set_cons_zero, List.set_cons_succ])
        refine wpAnyG_pure 9 (v := ?_) (fun _ => trivial) (by simp only [List.getElem?_toArray, List.getElem?_cons_succ, List.getElem?_cons_zero]; rfl) (by kernel_rfl) (fun _ _ _ _ _ h => h) ⟨(by rfl), (by intro c h; cases h), ?_⟩ hHeld ?_
        rotate_left
        focus (intro wS hSw; (try replace hSw := HSF.out wS hSw); (try dsimp only at hSw); go_simp; (try with_reducible rfl))
        (try simp only [Act.put, List.setIfInBounds_toArray, List.set_cons_zero, List.set_cons_succ])
        refine wpAnyS_done (by kernel_rfl) ?_
        clear hHeld HSF hsub
        have hi1 := HI1.out
        go_wp2_with fail
        go_roundw
        case rel => exact ⟨i + 1, by omega, by omega, by go_num, HB.out.trans (BD.out.mono HB.out.size)⟩
        case measure => simp [intOf]; omega
    · have hke : i = l.length := by omega
      have hki : ¬ (i : Int) < l.length := by omega
      clear hke
      go_wp2_with fail
      go_ret
      exact ⟨rfl, HB.out⟩
/-! ### A neighbour's number tells the direction -/
def dlt (W H d : Int) : Int := stepX d + W * stepY d + W * H * stepZ d
theorem beside_num {W H D c d n : Int} (h : RS W H D) (hb : besideL W H D c d = n) (hn : 0 ≤ n) : n = c + dlt W H d ∧ 0 ≤ d ∧ d < 6 ∧ (stepX d ≠ 0 → 2 ≤ W) ∧ (stepY d ≠ 0 → 2 ≤ H) := by
  unfold besideL at hb
  split at hb
  · rename_i hc
    unfold cellL at hb
    split at hb
    · rename_i hr
      have w1 := h.w1; have h1 := h.h1
      have e1 : c = W * (c / W) + c % W := (Int.mul_ediv_add_emod c W).symm
      have e2 : c / W = H * (c / W / H) + c / W % H := (Int.mul_ediv_add_emod (c / W) H).symm
      have e3 : c / (W * H) = c / W / H := (Int.ediv_ediv_of_nonneg (by omega)).symm
      have x0 := Int.emod_nonneg c (show W ≠ 0 by omega)
      have x1 := Int.emod_lt_of_pos c (show 0 < W by omega)
      have y0 := Int.emod_nonneg (c / W) (show H ≠ 0 by omega)
      have y1 := Int.emod_lt_of_pos (c / W) (show 0 < H by omega)
      rw [e3] at hb hr
      generalize c % W = x at *
      generalize c / W / H = z at *
      generalize c / W % H = y at *
      generalize hq : c / W = q at *
      clear hq e3
      subst e2
      refine ⟨?_, hc.2.2.1, hc.2.2.2, ?_, ?_⟩
      · rw [← hb, e1]
        unfold dlt
        simp only [Int.add_mul, Int.mul_add, Int.mul_assoc, Int.mul_comm, Int.mul_left_comm]
        omega
      · intro hs
        have := (step_bd d).1
        omega
      · intro hs
        have := (step_bd d).2.1
        omega
    · omega
  · omega
theorem beside_inj {W H D c d d' n : Int} (h : RS W H D) (hb : besideL W H D c d = n) (hb' : besideL W H D c d' = n) (hn : 0 ≤ n) : d = d' := by
  obtain ⟨e, d0, d6, hw, hh⟩ := beside_num h hb hn
  obtain ⟨e', d0', d6', hw', hh'⟩ := beside_num h hb' hn
  have w1 := h.w1; have h1 := h.h1
  have hWH : W ≤ W * H := by have := Int.mul_le_mul_of_nonneg_left h1 (show 0 ≤ W by omega); simpa using this
  have hWH2 : 2 ≤ H → 2 * W ≤ W * H := fun hq => by have := Int.mul_le_mul_of_nonneg_left hq (show 0 ≤ W by omega); omega
  have hd : d = 0 ∨ d = 1 ∨ d = 2 ∨ d = 3 ∨ d = 4 ∨ d = 5 := by omega
  have hd' : d' = 0 ∨ d' = 1 ∨ d' = 2 ∨ d' = 3 ∨ d' = 4 ∨ d' = 5 := by omega
  unfold dlt at e e'
  rcases hd with rfl | rfl | rfl | rfl | rfl | rfl <;> rcases hd' with rfl | rfl | rfl | rfl | rfl | rfl <;> first
    | rfl
    | (exfalso
       simp [stepX, stepY, stepZ] at e e' hw hh hw' hh'
       omega)
end Go.Proofs.Ytbelaeellcnpmaa
