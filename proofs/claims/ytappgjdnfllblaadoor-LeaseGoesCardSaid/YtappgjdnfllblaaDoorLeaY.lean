
/- Lease: a clock is read; a packet arrives. -/
import Derived.Test.YtappgjdnfllblaaDoorLeaX
set_option linter.unusedSimpArgs false
set_option linter.unusedVariables false
namespace Go.Proofs.YtappgjdnfllblaaDoor
open Go.RowKit Go.IntWalk Go.Maps Go.WideMaps
theorem Pl.wr {w0 wx : World} {m : PM} {s : LS} (h : Pl w0 wx m s) : m.px < wx.heap.size ∧ m.gd < wx.heap.size ∧ m.ga < wx.heap.size := ⟨h.bp.lt, h.bd.lt, h.bg.lt⟩
set_option maxRecDepth 100000 in
set_option maxHeartbeats 1000000 in
theorem clock_0 {w0 wx : World} {m : PM} {s : LS} (h : Pl w0 wx m s) (ht : 0 ≤ s.time ∧ s.time ≤ 1000000000) (ha : 0 ≤ s.a0 ∧ s.a0 ≤ 2) : Calls Tryd.prog 41 #[.pointer (some ⟨m.px, 0, none⟩), .int .i64 0] wx fun e w' => e = .returned (.int .i64 (s.clock 0)) ∧ Below wx.heap.size wx w' := by
  have hw : wrap64 (s.time + s.a0) = s.time + s.a0 := wrap64_in _ (by omega)
  have hr := hid (show s.clock 0 = s.time + s.a0 from rfl)
  have HSF := hid (fun (wq : World) (hq : Below wx.heap.size wx wq) => (h.step hq).c)
  have BD := hid ((Below.refl wx.heap.size wx).drew)
  obtain ⟨p0, p1, p2, p3, e0, e1, c0, c1⟩ := h.c
  clear ht ha h
  go_enter Tryd.func41, Tryd.ntmps41
  go_upto_region 1 with fail
  clear p0 p1 p2 p3 e0 e1 c0 c1
  refine wpIn_wide.1 (wpIn_region_S (n := 0) (fun wq => Below wx.heap.size wx wq) [] (by kernel_rfl) BD.out (fun hHeld => ?_))
  generalize wx.drew = wd at *
  refine wpAnyS_pure 0 (v := ?_) (fun _ => trivial) (by simp only [List.getElem?_toArray, List.getElem?_cons_succ, List.getElem?_cons_zero]; rfl) (by kernel_rfl) (fun _ _ _ _ _ h => h) ⟨rfl, (by intro c h; cases h), ?_⟩ hHeld ?_
  rotate_left
  focus (intro wS hSw; (try replace hSw := HSF.out wS hSw); (try dsimp only at hSw); go_simp; (try with_reducible rfl))
  (try simp only [Act.put, List.setIfInBounds_toArray, List.set_cons_zero, List.set_cons_succ])
  refine wpAnyS_pure 1 (v := ?_) (fun _ => trivial) (by simp only [List.getElem?_toArray, List.getElem?_cons_succ, List.getElem?_cons_zero]; rfl) (by kernel_rfl) (fun _ _ _ _ _ h => h) ⟨rfl, (by intro c h; cases h), ?_⟩ hHeld ?_
  rotate_left
  focus (intro wS hSw; (try replace hSw := HSF.out wS hSw); (try dsimp only at hSw); go_simp; (try with_reducible rfl))
  (try simp only [Act.put, List.setIfInBounds_toArray, List.set_cons_zero, List.set_cons_succ])
  refine wpAnyS_pure 2 (v := ?_) (fun _ => trivial) (by simp only [List.getElem?_toArray, List.getElem?_cons_succ, List.getElem?_cons_zero]; rfl) (by kernel_rfl) (fun _ _ _ _ _ h => h) ⟨rfl, (by intro c h; cases h), ?_⟩ hHeld ?_
  rotate_left
  focus (intro wS hSw; (try replace hSw := HSF.out wS hSw); (try dsimp only at hSw); go_simp; (try with_reducible rfl))
  (try simp only [Act.put, List.setIfInBounds_toArray, List.set_cons_zero, List.set_cons_succ])
  refine wpAnyS_take 3 (v := ?_) (fun _ => trivial) (by simp only [List.getElem?_toArray, List.getElem?_cons_succ, List.getElem?_cons_zero]; rfl) (by kernel_rfl) (fun _ _ _ _ _ h => h) ⟨rfl, (by intro c h; cases h), ?_⟩ hHeld ?_
  rotate_left
  focus (intro wS hSw; (try replace hSw := HSF.out wS hSw); (try dsimp only at hSw); go_simp; (try with_reducible rfl))
  (try simp only [Act.put, List.setIfInBounds_toArray, List.set_cons_zero, List.set_cons_succ])
  refine wpAnyS_pure 4 (v := ?_) (fun _ => trivial) (by simp only [List.getElem?_toArray, List.getElem?_cons_succ, List.getElem?_cons_zero]; rfl) (by kernel_rfl) (fun _ _ _ _ _ h => h) ⟨rfl, (by intro c h; cases h), ?_⟩ hHeld ?_
  rotate_left
  focus (intro wS hSw; (try replace hSw := HSF.out wS hSw); (try dsimp only at hSw); go_simp; (try with_reducible rfl))
  (try simp only [Act.put, List.setIfInBounds_toArray, List.set_cons_zero, List.set_cons_succ])
  refine wpAnyS_pure 5 (v := ?_) (fun _ => trivial) (by simp only [List.getElem?_toArray, List.getElem?_cons_succ, List.getElem?_cons_zero]; rfl) (by kernel_rfl) (fun _ _ _ _ _ h => h) ⟨rfl, (by intro c h; cases h), ?_⟩ hHeld ?_
  rotate_left
  focus (intro wS hSw; (try replace hSw := HSF.out wS hSw); (try dsimp only at hSw); go_simp; (try with_reducible rfl))
  (try simp only [Act.put, List.setIfInBounds_toArray, List.set_cons_zero, List.set_cons_succ])
  refine wpAnyS_pure 6 (v := ?_) (fun _ => trivial) (by simp only [List.getElem?_toArray, List.getElem?_cons_succ, List.getElem?_cons_zero]; rfl) (by kernel_rfl) (fun _ _ _ _ _ h => h) ⟨rfl, (by intro c h; cases h), ?_⟩ hHeld ?_
  rotate_left
  focus (intro wS hSw; (try replace hSw := HSF.out wS hSw); (try dsimp only at hSw); go_simp; (try with_reducible rfl))
  (try simp only [Act.put, List.setIfInBounds_toArray, List.set_cons_zero, List.set_cons_succ])
  refine wpAnyS_take 7 (v := ?_) (fun _ => trivial) (by simp only [List.getElem?_toArray, List.getElem?_cons_succ, List.getElem?_cons_zero]; rfl) (by kernel_rfl) (fun _ _ _ _ _ h => h) ⟨rfl, (by intro c h; cases h), ?_⟩ hHeld ?_
  rotate_left
  focus (intro wS hSw; (try replace hSw := HSF.out wS hSw); (try dsimp only at hSw); go_simp; (try with_reducible rfl))
  (try simp only [Act.put, List.setIfInBounds_toArray, List.set_cons_zero, List.set_cons_succ])
  refine wpAnyS_pure 8 (v := ?_) (fun _ => trivial) (by simp only [List.getElem?_toArray, List.getElem?_cons_succ, List.getElem?_cons_zero]; rfl) (by kernel_rfl) (fun _ _ _ _ _ h => h) ⟨rfl, (by intro c h; cases h), ?_⟩ hHeld ?_
  rotate_left
  focus (intro wS hSw; (try replace hSw := HSF.out wS hSw); (try dsimp only at hSw); go_simp; (try with_reducible rfl))
  (try simp only [Act.put, List.setIfInBounds_toArray, List.set_cons_zero, List.set_cons_succ])
  refine wpAnyS_pure 9 (v := ?_) (fun _ => trivial) (by simp only [List.getElem?_toArray, List.getElem?_cons_succ, List.getElem?_cons_zero]; rfl) (by kernel_rfl) (fun _ _ _ _ _ h => h) ⟨rfl, (by intro c h; cases h), ?_⟩ hHeld ?_
  rotate_left
  focus (intro wS hSw; (try replace hSw := HSF.out wS hSw); (try dsimp only at hSw); go_simp; (try with_reducible rfl))
  (try simp only [Act.put, List.setIfInBounds_toArray, List.set_cons_zero, List.set_cons_succ])
  refine wpAnyS_take 10 (v := ?_) (fun _ => trivial) (by simp only [List.getElem?_toArray, List.getElem?_cons_succ, List.getElem?_cons_zero]; rfl) (by kernel_rfl) (fun _ _ _ _ _ h => h) ⟨rfl, (by intro c h; cases h), ?_⟩ hHeld ?_
  rotate_left
  focus (intro wS hSw; (try replace hSw := HSF.out wS hSw); (try dsimp only at hSw); go_simp; (try with_reducible rfl))
  (try simp only [Act.put, List.setIfInBounds_toArray, List.set_cons_zero, List.set_cons_succ])
  refine wpAnyS_pure 11 (v := ?_) (fun _ => trivial) (by simp only [List.getElem?_toArray, List.getElem?_cons_succ, List.getElem?_cons_zero]; rfl) (by kernel_rfl) (fun _ _ _ _ _ h => h) ⟨rfl, (by intro c h; cases h), ?_⟩ hHeld ?_
  rotate_left
  focus (intro wS hSw; (try replace hSw := HSF.out wS hSw); (try dsimp only at hSw); go_simp; (try with_reducible rfl))
  (try simp only [Act.put, List.setIfInBounds_toArray, List.set_cons_zero, List.set_cons_succ])
  refine wpAnyS_pure 12 (v := ?_) (fun _ => trivial) (by simp only [List.getElem?_toArray, List.getElem?_cons_succ, List.getElem?_cons_zero]; rfl) (by kernel_rfl) (fun _ _ _ _ _ h => h) ⟨rfl, (by intro c h; cases h), ?_⟩ hHeld ?_
  rotate_left
  focus (intro wS hSw; (try replace hSw := HSF.out wS hSw); (try dsimp only at hSw); go_simp; (try with_reducible rfl))
  (try simp only [Act.put, List.setIfInBounds_toArray, List.set_cons_zero, List.set_cons_succ])
  refine wpAnyS_done (by kernel_rfl) ?_
  clear hHeld HSF
  go_wp2_with fail
  go_ret
  exact ⟨ret_int (by rw [hr.out]; first | rfl | (rw [i64_left]; exact hw) | exact hw), BD.out⟩
set_option maxRecDepth 100000 in
set_option maxHeartbeats 1000000 in
theorem clock_1 {w0 wx : World} {m : PM} {s : LS} (h : Pl w0 wx m s) (ht : 0 ≤ s.time ∧ s.time ≤ 1000000000) (ha : 0 ≤ s.a1 ∧ s.a1 ≤ 2) : Calls Tryd.prog 41 #[.pointer (some ⟨m.px, 0, none⟩), .int .i64 1] wx fun e w' => e = .returned (.int .i64 (s.clock 1)) ∧ Below wx.heap.size wx w' := by
  have hw : wrap64 (s.time + s.a1) = s.time + s.a1 := wrap64_in _ (by omega)
  have hr := hid (show s.clock 1 = s.time + s.a1 from rfl)
  have HSF := hid (fun (wq : World) (hq : Below wx.heap.size wx wq) => (h.step hq).c)
  have BD := hid ((Below.refl wx.heap.size wx).drew)
  obtain ⟨p0, p1, p2, p3, e0, e1, c0, c1⟩ := h.c
  clear ht ha h
  go_enter Tryd.func41, Tryd.ntmps41
  go_upto_region 1 with fail
  clear p0 p1 p2 p3 e0 e1 c0 c1
  refine wpIn_wide.1 (wpIn_region_S (n := 0) (fun wq => Below wx.heap.size wx wq) [] (by kernel_rfl) BD.out (fun hHeld => ?_))
  generalize wx.drew = wd at *
  refine wpAnyS_pure 0 (v := ?_) (fun _ => trivial) (by simp only [List.getElem?_toArray, List.getElem?_cons_succ, List.getElem?_cons_zero]; rfl) (by kernel_rfl) (fun _ _ _ _ _ h => h) ⟨rfl, (by intro c h; cases h), ?_⟩ hHeld ?_
  rotate_left
  focus (intro wS hSw; (try replace hSw := HSF.out wS hSw); (try dsimp only at hSw); go_simp; (try with_reducible rfl))
  (try simp only [Act.put, List.setIfInBounds_toArray, List.set_cons_zero, List.set_cons_succ])
  refine wpAnyS_pure 1 (v := ?_) (fun _ => trivial) (by simp only [List.getElem?_toArray, List.getElem?_cons_succ, List.getElem?_cons_zero]; rfl) (by kernel_rfl) (fun _ _ _ _ _ h => h) ⟨rfl, (by intro c h; cases h), ?_⟩ hHeld ?_
  rotate_left
  focus (intro wS hSw; (try replace hSw := HSF.out wS hSw); (try dsimp only at hSw); go_simp; (try with_reducible rfl))
  (try simp only [Act.put, List.setIfInBounds_toArray, List.set_cons_zero, List.set_cons_succ])
  refine wpAnyS_pure 2 (v := ?_) (fun _ => trivial) (by simp only [List.getElem?_toArray, List.getElem?_cons_succ, List.getElem?_cons_zero]; rfl) (by kernel_rfl) (fun _ _ _ _ _ h => h) ⟨rfl, (by intro c h; cases h), ?_⟩ hHeld ?_
  rotate_left
  focus (intro wS hSw; (try replace hSw := HSF.out wS hSw); (try dsimp only at hSw); go_simp; (try with_reducible rfl))
  (try simp only [Act.put, List.setIfInBounds_toArray, List.set_cons_zero, List.set_cons_succ])
  refine wpAnyS_take 3 (v := ?_) (fun _ => trivial) (by simp only [List.getElem?_toArray, List.getElem?_cons_succ, List.getElem?_cons_zero]; rfl) (by kernel_rfl) (fun _ _ _ _ _ h => h) ⟨rfl, (by intro c h; cases h), ?_⟩ hHeld ?_
  rotate_left
  focus (intro wS hSw; (try replace hSw := HSF.out wS hSw); (try dsimp only at hSw); go_simp; (try with_reducible rfl))
  (try simp only [Act.put, List.setIfInBounds_toArray, List.set_cons_zero, List.set_cons_succ])
  refine wpAnyS_pure 4 (v := ?_) (fun _ => trivial) (by simp only [List.getElem?_toArray, List.getElem?_cons_succ, List.getElem?_cons_zero]; rfl) (by kernel_rfl) (fun _ _ _ _ _ h => h) ⟨rfl, (by intro c h; cases h), ?_⟩ hHeld ?_
  rotate_left
  focus (intro wS hSw; (try replace hSw := HSF.out wS hSw); (try dsimp only at hSw); go_simp; (try with_reducible rfl))
  (try simp only [Act.put, List.setIfInBounds_toArray, List.set_cons_zero, List.set_cons_succ])
  refine wpAnyS_pure 5 (v := ?_) (fun _ => trivial) (by simp only [List.getElem?_toArray, List.getElem?_cons_succ, List.getElem?_cons_zero]; rfl) (by kernel_rfl) (fun _ _ _ _ _ h => h) ⟨rfl, (by intro c h; cases h), ?_⟩ hHeld ?_
  rotate_left
  focus (intro wS hSw; (try replace hSw := HSF.out wS hSw); (try dsimp only at hSw); go_simp; (try with_reducible rfl))
  (try simp only [Act.put, List.setIfInBounds_toArray, List.set_cons_zero, List.set_cons_succ])
  refine wpAnyS_pure 6 (v := ?_) (fun _ => trivial) (by simp only [List.getElem?_toArray, List.getElem?_cons_succ, List.getElem?_cons_zero]; rfl) (by kernel_rfl) (fun _ _ _ _ _ h => h) ⟨rfl, (by intro c h; cases h), ?_⟩ hHeld ?_
  rotate_left
  focus (intro wS hSw; (try replace hSw := HSF.out wS hSw); (try dsimp only at hSw); go_simp; (try with_reducible rfl))
  (try simp only [Act.put, List.setIfInBounds_toArray, List.set_cons_zero, List.set_cons_succ])
  refine wpAnyS_take 7 (v := ?_) (fun _ => trivial) (by simp only [List.getElem?_toArray, List.getElem?_cons_succ, List.getElem?_cons_zero]; rfl) (by kernel_rfl) (fun _ _ _ _ _ h => h) ⟨rfl, (by intro c h; cases h), ?_⟩ hHeld ?_
  rotate_left
  focus (intro wS hSw; (try replace hSw := HSF.out wS hSw); (try dsimp only at hSw); go_simp; (try with_reducible rfl))
  (try simp only [Act.put, List.setIfInBounds_toArray, List.set_cons_zero, List.set_cons_succ])
  refine wpAnyS_pure 8 (v := ?_) (fun _ => trivial) (by simp only [List.getElem?_toArray, List.getElem?_cons_succ, List.getElem?_cons_zero]; rfl) (by kernel_rfl) (fun _ _ _ _ _ h => h) ⟨rfl, (by intro c h; cases h), ?_⟩ hHeld ?_
  rotate_left
  focus (intro wS hSw; (try replace hSw := HSF.out wS hSw); (try dsimp only at hSw); go_simp; (try with_reducible rfl))
  (try simp only [Act.put, List.setIfInBounds_toArray, List.set_cons_zero, List.set_cons_succ])
  refine wpAnyS_pure 9 (v := ?_) (fun _ => trivial) (by simp only [List.getElem?_toArray, List.getElem?_cons_succ, List.getElem?_cons_zero]; rfl) (by kernel_rfl) (fun _ _ _ _ _ h => h) ⟨rfl, (by intro c h; cases h), ?_⟩ hHeld ?_
  rotate_left
  focus (intro wS hSw; (try replace hSw := HSF.out wS hSw); (try dsimp only at hSw); go_simp; (try with_reducible rfl))
  (try simp only [Act.put, List.setIfInBounds_toArray, List.set_cons_zero, List.set_cons_succ])
  refine wpAnyS_take 10 (v := ?_) (fun _ => trivial) (by simp only [List.getElem?_toArray, List.getElem?_cons_succ, List.getElem?_cons_zero]; rfl) (by kernel_rfl) (fun _ _ _ _ _ h => h) ⟨rfl, (by intro c h; cases h), ?_⟩ hHeld ?_
  rotate_left
  focus (intro wS hSw; (try replace hSw := HSF.out wS hSw); (try dsimp only at hSw); go_simp; (try with_reducible rfl))
  (try simp only [Act.put, List.setIfInBounds_toArray, List.set_cons_zero, List.set_cons_succ])
  refine wpAnyS_pure 11 (v := ?_) (fun _ => trivial) (by simp only [List.getElem?_toArray, List.getElem?_cons_succ, List.getElem?_cons_zero]; rfl) (by kernel_rfl) (fun _ _ _ _ _ h => h) ⟨rfl, (by intro c h; cases h), ?_⟩ hHeld ?_
  rotate_left
  focus (intro wS hSw; (try replace hSw := HSF.out wS hSw); (try dsimp only at hSw); go_simp; (try with_reducible rfl))
  (try simp only [Act.put, List.setIfInBounds_toArray, List.set_cons_zero, List.set_cons_succ])
  refine wpAnyS_pure 12 (v := ?_) (fun _ => trivial) (by simp only [List.getElem?_toArray, List.getElem?_cons_succ, List.getElem?_cons_zero]; rfl) (by kernel_rfl) (fun _ _ _ _ _ h => h) ⟨rfl, (by intro c h; cases h), ?_⟩ hHeld ?_
  rotate_left
  focus (intro wS hSw; (try replace hSw := HSF.out wS hSw); (try dsimp only at hSw); go_simp; (try with_reducible rfl))
  (try simp only [Act.put, List.setIfInBounds_toArray, List.set_cons_zero, List.set_cons_succ])
  refine wpAnyS_done (by kernel_rfl) ?_
  clear hHeld HSF
  go_wp2_with fail
  go_ret
  exact ⟨ret_int (by rw [hr.out]; first | rfl | (rw [i64_left]; exact hw) | exact hw), BD.out⟩
set_option maxRecDepth 100000 in
set_option maxHeartbeats 1000000 in
set_option maxRecDepth 100000 in
/-- Nothing arrives: there is no such packet, or the network is split. -/
theorem larrive_none {w0 wx : World} {m : PM} {s : LS} (h : Pl w0 wx m s) (hsp : s.sp = 0 ∨ s.sp = 1) (hF : s.F.length ≤ 500) (hE : ∀ p ∈ s.F, Ends p.1 p.2.1) (i : Int) (hi : ¬ (0 ≤ i ∧ i < s.F.length) ∨ s.sp = 1) :
    Calls Tryd.prog 46 #[.pointer (some ⟨m.px, 0, none⟩), .int .i64 i] wx (fun e w' => e = .returned (.bool true) ∧ ∃ vn, Pl w0 w' { m with vn := vn } { s with F := dropN s.F i }) := by
  obtain ⟨p0, p1, _, _⟩ := h.c
  have hz := h.bp.lt
  have hc := ndeliver_any h.nt hsp hF i hE
  obtain ⟨en, pq, hde, hen⟩ : ∃ en pq, delN s.F s.sp i = (pq, en) ∧ (en = 4 ∨ en = 10) := by
    unfold delN
    split
    · rename_i hin
      rcases hi with hi | h1
      · exact absurd hin hi
      · rw [h1]; exact ⟨10, _, rfl, .inr rfl⟩
    · exact ⟨4, _, rfl, .inl rfl⟩
  rw [hde] at hc
  obtain ⟨pa, pb, ps⟩ := pq
  have P0 := hid h
  have HC := hid hc
  clear h hc hE hde hi hsp
  go_enter Tryd.func46, Tryd.ntmps46
  go_wp2_with fail
  refine HC.out.mono ?_
  rintro e w1 ⟨x, vn1, rfl, rfl, N1, C1, _⟩
  have P1 := hid ((P0.out.net N1 C1).alloc (Obj.cells (pkv (pa, pb, ps)) 106))
  clear N1 C1 HC P0 p0 p1
  rcases hen with rfl | rfl
  all_goals
    go_wp2_with fail
    go_ret
    exact ⟨rfl, vn1, P1.out⟩
set_option maxRecDepth 100000 in
set_option maxHeartbeats 4000000 in
set_option maxRecDepth 100000 in
/-- A note arrives at the desk 0. -/
theorem larrive_0 {w0 wx : World} {m : PM} {s : LS} (h : Pl w0 wx m s) (hsp : s.sp = 0) (hF : s.F.length ≤ 500) (hE : ∀ p ∈ s.F, Ends p.1 p.2.1) (he : Env w0) (k : Nat) (hk : k < s.F.length) (n : P4) (hn : P4I n) (hp : s.F[k] = (1, 0, bs (enc4 n))) (ok : s.da.Ok) (hh : (hearF s.da n).1 = 0) :
    Calls Tryd.prog 46 #[.pointer (some ⟨m.px, 0, none⟩), .int .i64 k] wx (fun e w' => e = .returned (.bool true) ∧ ∃ vn, Pl w0 w' { m with vn := vn } { s with da := (hearF s.da n).2, F := s.F.eraseIdx k }) := by
  obtain ⟨p0, p1, _, _⟩ := h.c
  have hz := h.bp.lt
  have hc := ndeliver_any h.nt (.inl hsp) hF k hE
  rw [dropN_yes hk, show delN s.F s.sp (k : Int) = ((1, 0, bs (enc4 n)), 0) by unfold delN; rw [if_pos ⟨by omega, by omega⟩, if_pos hsp, getN_yes hk, hp]] at hc
  have P0 := hid h
  have HC := hid hc
  have HN := hid hn
  have HH := hid (fun (W : World) (hW : LdM W m.A s.da) => hear_f hW ok n hn.2.1)
  rw [hh] at HH
  have hsz := hid (show (bs (enc4 n)).size ≤ 88 by rw [bs_size]; exact enc4_le n hn)
  have RN := hid (fun (W : World) (hW : Below w0.heap.size w0 W) => rnote_any (bs (enc4 n)) W (by have := hsz.out; omega) (he.below hW))
  rw [readN_bs n hn] at RN
  simp only [NoRes, noteV, noteC] at RN HH
  obtain ⟨n0, n1, n2, n3⟩ := n
  simp only at RN HH
  clear h hc hE hp hh ok hn hF hsp
  go_enter Tryd.func46, Tryd.ntmps46
  go_wp2_with fail
  refine HC.out.mono ?_
  rintro e w1 ⟨x, vn1, rfl, rfl, N1, C1, _⟩
  have P1 := hid (P0.out.net N1 C1)
  clear N1 C1 HC P0 p0 p1
  have P2 := hid (P1.out.alloc (Obj.cells (pkv (1, 0, bs (enc4 (n0, n1, n2, n3)))) 106))
  have x7 := hid (Blk.new w1 106 (pkv (1, 0, bs (enc4 (n0, n1, n2, n3)))))
  clear P1
  go_wp2_with fail
  refine (RN.out _ P2.out.below).mono ?_
  intro e w3 hR3
  simp only [NoRes, noteC] at hR3
  obtain ⟨rfl, hB3⟩ := hR3
  have P4 := hid ((P2.out.step hB3).alloc (Obj.cells #[.int .i64 n0, .int .i64 n1, .int .i64 n2, .int .i64 n3] 26))
  have x74 := hid ((x7.out.below hB3 x7.out.lt).alloc (Obj.cells #[.int .i64 n0, .int .i64 n1, .int .i64 n2, .int .i64 n3] 26))
  have x94 := hid (Blk.new w3 26 #[.int .i64 n0, .int .i64 n1, .int .i64 n2, .int .i64 n3])
  have y0 := (x7.out.below hB3 x7.out.lt).cell 1; have yz := (x7.out.below hB3 x7.out.lt).lt
  simp at y0
  clear hB3 P2 x7 RN
  generalize w1.heap.size = g7 at *
  go_upto_region 7 with fail
  clear y0 yz
  generalize hw4 : w3.alloc (Obj.cells #[.int .i64 n0, .int .i64 n1, .int .i64 n2, .int .i64 n3] 26) = w4 at *
  clear hw4
  generalize w3.heap.size = g9 at *
  have HSF := hid (fun (wq : World) (hq : Below w4.heap.size w4 wq) => And.intro (P4.out.step hq).c (And.intro ((x74.out.below hq x74.out.lt).cell 1) (And.intro ((x94.out.below hq x94.out.lt).cell 0) (And.intro ((x94.out.below hq x94.out.lt).cell 1) (And.intro ((x94.out.below hq x94.out.lt).cell 2) ((x94.out.below hq x94.out.lt).cell 3))))))
  have BD := hid ((Below.refl w4.heap.size w4).drew)
  refine wpIn_wide.1 (wpIn_region_S (n := 0) (fun wq => Below w4.heap.size w4 wq) [9] (by kernel_rfl) BD.out (fun hHeld => ?_))
  have P5 := hid (P4.out.step BD.out)
  generalize w4.drew = w5 at *
  refine wpAnyS_pure 0 (v := ?_) (fun _ => trivial) (by simp only [List.getElem?_toArray, List.getElem?_cons_succ, List.getElem?_cons_zero]; rfl) (by kernel_rfl) (fun _ _ _ _ _ h => h) ⟨rfl, (by intro c h; cases h), ?_⟩ hHeld ?_
  rotate_left
  focus (intro wS hSw; (try replace hSw := HSF.out wS hSw); (try dsimp only at hSw); go_simp; (try with_reducible rfl))
  (try simp only [Act.put, List.setIfInBounds_toArray, List.set_cons_zero, List.set_cons_succ])
  refine wpAnyS_pure 1 (v := ?_) (fun _ => trivial) (by simp only [List.getElem?_toArray, List.getElem?_cons_succ, List.getElem?_cons_zero]; rfl) (by kernel_rfl) (fun _ _ _ _ _ h => h) ⟨rfl, (by intro c h; cases h), ?_⟩ hHeld ?_
  rotate_left
  focus (intro wS hSw; (try replace hSw := HSF.out wS hSw); (try dsimp only at hSw); go_simp; (try with_reducible rfl))
  (try simp only [Act.put, List.setIfInBounds_toArray, List.set_cons_zero, List.set_cons_succ])
  refine wpAnyS_pure 2 (v := ?_) (fun _ => trivial) (by simp only [List.getElem?_toArray, List.getElem?_cons_succ, List.getElem?_cons_zero]; rfl) (by kernel_rfl) (fun _ _ _ _ _ h => h) ⟨rfl, (by intro c h; cases h), ?_⟩ hHeld ?_
  rotate_left
  focus (intro wS hSw; (try replace hSw := HSF.out wS hSw); (try dsimp only at hSw); go_simp; (try with_reducible rfl))
  (try simp only [Act.put, List.setIfInBounds_toArray, List.set_cons_zero, List.set_cons_succ])
  refine wpAnyS_take 3 (v := ?_) (fun _ => trivial) (by simp only [List.getElem?_toArray, List.getElem?_cons_succ, List.getElem?_cons_zero]; rfl) (by kernel_rfl) (fun _ _ _ _ _ h => h) ⟨rfl, (by intro c h; cases h), ?_⟩ hHeld ?_
  rotate_left
  focus (intro wS hSw; (try replace hSw := HSF.out wS hSw); (try dsimp only at hSw); go_simp; (try with_reducible rfl))
  (try simp only [Act.put, List.setIfInBounds_toArray, List.set_cons_zero, List.set_cons_succ])
  refine wpAnyS_pure 4 (v := ?_) (fun _ => trivial) (by simp only [List.getElem?_toArray, List.getElem?_cons_succ, List.getElem?_cons_zero]; rfl) (by kernel_rfl) (fun _ _ _ _ _ h => h) ⟨rfl, (by intro c h; cases h), ?_⟩ hHeld ?_
  rotate_left
  focus (intro wS hSw; (try replace hSw := HSF.out wS hSw); (try dsimp only at hSw); go_simp; (try with_reducible rfl))
  (try simp only [Act.put, List.setIfInBounds_toArray, List.set_cons_zero, List.set_cons_succ])
  refine wpAnyS_take 5 (v := ?_) (fun _ => trivial) (by simp only [List.getElem?_toArray, List.getElem?_cons_succ, List.getElem?_cons_zero]; rfl) (by kernel_rfl) (fun _ _ _ _ _ h => h) ⟨rfl, (by intro c h; cases h), ?_⟩ hHeld ?_
  rotate_left
  focus (intro wS hSw; (try replace hSw := HSF.out wS hSw); (try dsimp only at hSw); go_simp; (try with_reducible rfl))
  (try simp only [Act.put, List.setIfInBounds_toArray, List.set_cons_zero, List.set_cons_succ])
  refine wpAnyS_pure 6 (v := ?_) (fun _ => trivial) (by simp only [List.getElem?_toArray, List.getElem?_cons_succ, List.getElem?_cons_zero]; rfl) (by kernel_rfl) (fun _ _ _ _ _ h => h) ⟨rfl, (by intro c h; cases h), ?_⟩ hHeld ?_
  rotate_left
  focus (intro wS hSw; (try replace hSw := HSF.out wS hSw); (try dsimp only at hSw); go_simp; (try with_reducible rfl))
  (try simp only [Act.put, List.setIfInBounds_toArray, List.set_cons_zero, List.set_cons_succ])
  refine wpAnyS_take 7 (v := ?_) (fun _ => trivial) (by simp only [List.getElem?_toArray, List.getElem?_cons_succ, List.getElem?_cons_zero]; rfl) (by kernel_rfl) (fun _ _ _ _ _ h => h) ⟨rfl, (by intro c h; cases h), ?_⟩ hHeld ?_
  rotate_left
  focus (intro wS hSw; (try replace hSw := HSF.out wS hSw); (try dsimp only at hSw); go_simp; (try with_reducible rfl))
  (try simp only [Act.put, List.setIfInBounds_toArray, List.set_cons_zero, List.set_cons_succ])
  refine wpAnyS_take 8 (v := ?_) (fun _ => trivial) (by simp only [List.getElem?_toArray, List.getElem?_cons_succ, List.getElem?_cons_zero]; rfl) (by kernel_rfl) (fun _ _ _ _ _ h => h) ⟨rfl, (by intro c h; cases h), ?_⟩ hHeld ?_
  rotate_left
  focus (intro wS hSw; (try replace hSw := HSF.out wS hSw); (try dsimp only at hSw); go_simp; (try with_reducible rfl))
  (try simp only [Act.put, List.setIfInBounds_toArray, List.set_cons_zero, List.set_cons_succ])
  refine wpAnyS_ready [9] (by kernel_rfl) (by simp) (AllReadyS.consL (by simp only [List.getElem?_toArray, List.getElem?_cons_succ, List.getElem?_cons_zero]; rfl) rfl (by kernel_rfl) (fun K hK => ?_) AllReadyS.nil)
  refine callS (by intro c h; cases h) (by go_simp; try with_reducible rfl) (HH.out w5 P5.out.la) ?_
  intro w6 hq
  obtain ⟨hL, q, hq, hg⟩ := hq
  have P6 := hid (P5.out.desk0 hq hL hg)
  refine hK.out _ _ ?_
  (try simp only [Act.put, List.setIfInBounds_toArray, List.set_cons_zero, List.set_cons_succ])
  clear hK K hL hq hg P5 P4 HSF hHeld BD
  refine wpAnyS_pureL 10 (v := ?_) (fun _ => trivial) (by simp only [List.getElem?_toArray, List.getElem?_cons_succ, List.getElem?_cons_zero]; rfl) (by kernel_rfl) (by kernel_rfl) (fun _ _ _ _ _ h => h) ⟨rfl, (by intro c h; cases h), ?_⟩ ?_
  rotate_left
  focus (intro wS hSw; (try replace hSw := HSF.out wS hSw); (try dsimp only at hSw); go_simp; (try with_reducible rfl))
  (try simp only [Act.put, List.setIfInBounds_toArray, List.set_cons_zero, List.set_cons_succ])
  refine wpAnyS_pureL 11 (v := ?_) (fun _ => trivial) (by simp only [List.getElem?_toArray, List.getElem?_cons_succ, List.getElem?_cons_zero]; rfl) (by kernel_rfl) (by kernel_rfl) (fun _ _ _ _ _ h => h) ⟨rfl, (by intro c h; cases h), ?_⟩ ?_
  rotate_left
  focus (intro wS hSw; (try replace hSw := HSF.out wS hSw); (try dsimp only at hSw); go_simp; (try with_reducible rfl))
  (try simp only [Act.put, List.setIfInBounds_toArray, List.set_cons_zero, List.set_cons_succ])
  refine wpAnyS_done (by kernel_rfl) ?_
  go_wp2_with fail
  go_ret
  exact ⟨rfl, vn1, P6.out⟩
set_option maxRecDepth 100000 in
set_option maxHeartbeats 4000000 in
set_option maxRecDepth 100000 in
/-- A note arrives at the desk 1. -/
theorem larrive_1 {w0 wx : World} {m : PM} {s : LS} (h : Pl w0 wx m s) (hsp : s.sp = 0) (hF : s.F.length ≤ 500) (hE : ∀ p ∈ s.F, Ends p.1 p.2.1) (he : Env w0) (k : Nat) (hk : k < s.F.length) (n : P4) (hn : P4I n) (hp : s.F[k] = (0, 1, bs (enc4 n))) (ok : s.db.Ok) (hh : (hearF s.db n).1 = 0) :
    Calls Tryd.prog 46 #[.pointer (some ⟨m.px, 0, none⟩), .int .i64 k] wx (fun e w' => e = .returned (.bool true) ∧ ∃ vn, Pl w0 w' { m with vn := vn } { s with db := (hearF s.db n).2, F := s.F.eraseIdx k }) := by
  obtain ⟨p0, p1, _, _⟩ := h.c
  have hz := h.bp.lt
  have hc := ndeliver_any h.nt (.inl hsp) hF k hE
  rw [dropN_yes hk, show delN s.F s.sp (k : Int) = ((0, 1, bs (enc4 n)), 0) by unfold delN; rw [if_pos ⟨by omega, by omega⟩, if_pos hsp, getN_yes hk, hp]] at hc
  have P0 := hid h
  have HC := hid hc
  have HN := hid hn
  have HH := hid (fun (W : World) (hW : LdM W m.B s.db) => hear_f hW ok n hn.2.1)
  rw [hh] at HH
  have hsz := hid (show (bs (enc4 n)).size ≤ 88 by rw [bs_size]; exact enc4_le n hn)
  have RN := hid (fun (W : World) (hW : Below w0.heap.size w0 W) => rnote_any (bs (enc4 n)) W (by have := hsz.out; omega) (he.below hW))
  rw [readN_bs n hn] at RN
  simp only [NoRes, noteV, noteC] at RN HH
  obtain ⟨n0, n1, n2, n3⟩ := n
  simp only at RN HH
  clear h hc hE hp hh ok hn hF hsp
  go_enter Tryd.func46, Tryd.ntmps46
  go_wp2_with fail
  refine HC.out.mono ?_
  rintro e w1 ⟨x, vn1, rfl, rfl, N1, C1, _⟩
  have P1 := hid (P0.out.net N1 C1)
  clear N1 C1 HC P0 p0 p1
  have P2 := hid (P1.out.alloc (Obj.cells (pkv (0, 1, bs (enc4 (n0, n1, n2, n3)))) 106))
  have x7 := hid (Blk.new w1 106 (pkv (0, 1, bs (enc4 (n0, n1, n2, n3)))))
  clear P1
  go_wp2_with fail
  refine (RN.out _ P2.out.below).mono ?_
  intro e w3 hR3
  simp only [NoRes, noteC] at hR3
  obtain ⟨rfl, hB3⟩ := hR3
  have P4 := hid ((P2.out.step hB3).alloc (Obj.cells #[.int .i64 n0, .int .i64 n1, .int .i64 n2, .int .i64 n3] 26))
  have x74 := hid ((x7.out.below hB3 x7.out.lt).alloc (Obj.cells #[.int .i64 n0, .int .i64 n1, .int .i64 n2, .int .i64 n3] 26))
  have x94 := hid (Blk.new w3 26 #[.int .i64 n0, .int .i64 n1, .int .i64 n2, .int .i64 n3])
  have y0 := (x7.out.below hB3 x7.out.lt).cell 1; have yz := (x7.out.below hB3 x7.out.lt).lt
  simp at y0
  clear hB3 P2 x7 RN
  generalize w1.heap.size = g7 at *
  go_upto_region 7 with fail
  clear y0 yz
  generalize hw4 : w3.alloc (Obj.cells #[.int .i64 n0, .int .i64 n1, .int .i64 n2, .int .i64 n3] 26) = w4 at *
  clear hw4
  generalize w3.heap.size = g9 at *
  have HSF := hid (fun (wq : World) (hq : Below w4.heap.size w4 wq) => And.intro (P4.out.step hq).c (And.intro ((x74.out.below hq x74.out.lt).cell 1) (And.intro ((x94.out.below hq x94.out.lt).cell 0) (And.intro ((x94.out.below hq x94.out.lt).cell 1) (And.intro ((x94.out.below hq x94.out.lt).cell 2) ((x94.out.below hq x94.out.lt).cell 3))))))
  have BD := hid ((Below.refl w4.heap.size w4).drew)
  refine wpIn_wide.1 (wpIn_region_S (n := 0) (fun wq => Below w4.heap.size w4 wq) [9] (by kernel_rfl) BD.out (fun hHeld => ?_))
  have P5 := hid (P4.out.step BD.out)
  generalize w4.drew = w5 at *
  refine wpAnyS_pure 0 (v := ?_) (fun _ => trivial) (by simp only [List.getElem?_toArray, List.getElem?_cons_succ, List.getElem?_cons_zero]; rfl) (by kernel_rfl) (fun _ _ _ _ _ h => h) ⟨rfl, (by intro c h; cases h), ?_⟩ hHeld ?_
  rotate_left
  focus (intro wS hSw; (try replace hSw := HSF.out wS hSw); (try dsimp only at hSw); go_simp; (try with_reducible rfl))
  (try simp only [Act.put, List.setIfInBounds_toArray, List.set_cons_zero, List.set_cons_succ])
  refine wpAnyS_pure 1 (v := ?_) (fun _ => trivial) (by simp only [List.getElem?_toArray, List.getElem?_cons_succ, List.getElem?_cons_zero]; rfl) (by kernel_rfl) (fun _ _ _ _ _ h => h) ⟨rfl, (by intro c h; cases h), ?_⟩ hHeld ?_
  rotate_left
  focus (intro wS hSw; (try replace hSw := HSF.out wS hSw); (try dsimp only at hSw); go_simp; (try with_reducible rfl))
  (try simp only [Act.put, List.setIfInBounds_toArray, List.set_cons_zero, List.set_cons_succ])
  refine wpAnyS_pure 2 (v := ?_) (fun _ => trivial) (by simp only [List.getElem?_toArray, List.getElem?_cons_succ, List.getElem?_cons_zero]; rfl) (by kernel_rfl) (fun _ _ _ _ _ h => h) ⟨rfl, (by intro c h; cases h), ?_⟩ hHeld ?_
  rotate_left
  focus (intro wS hSw; (try replace hSw := HSF.out wS hSw); (try dsimp only at hSw); go_simp; (try with_reducible rfl))
  (try simp only [Act.put, List.setIfInBounds_toArray, List.set_cons_zero, List.set_cons_succ])
  refine wpAnyS_take 3 (v := ?_) (fun _ => trivial) (by simp only [List.getElem?_toArray, List.getElem?_cons_succ, List.getElem?_cons_zero]; rfl) (by kernel_rfl) (fun _ _ _ _ _ h => h) ⟨rfl, (by intro c h; cases h), ?_⟩ hHeld ?_
  rotate_left
  focus (intro wS hSw; (try replace hSw := HSF.out wS hSw); (try dsimp only at hSw); go_simp; (try with_reducible rfl))
  (try simp only [Act.put, List.setIfInBounds_toArray, List.set_cons_zero, List.set_cons_succ])
  refine wpAnyS_pure 4 (v := ?_) (fun _ => trivial) (by simp only [List.getElem?_toArray, List.getElem?_cons_succ, List.getElem?_cons_zero]; rfl) (by kernel_rfl) (fun _ _ _ _ _ h => h) ⟨rfl, (by intro c h; cases h), ?_⟩ hHeld ?_
  rotate_left
  focus (intro wS hSw; (try replace hSw := HSF.out wS hSw); (try dsimp only at hSw); go_simp; (try with_reducible rfl))
  (try simp only [Act.put, List.setIfInBounds_toArray, List.set_cons_zero, List.set_cons_succ])
  refine wpAnyS_take 5 (v := ?_) (fun _ => trivial) (by simp only [List.getElem?_toArray, List.getElem?_cons_succ, List.getElem?_cons_zero]; rfl) (by kernel_rfl) (fun _ _ _ _ _ h => h) ⟨rfl, (by intro c h; cases h), ?_⟩ hHeld ?_
  rotate_left
  focus (intro wS hSw; (try replace hSw := HSF.out wS hSw); (try dsimp only at hSw); go_simp; (try with_reducible rfl))
  (try simp only [Act.put, List.setIfInBounds_toArray, List.set_cons_zero, List.set_cons_succ])
  refine wpAnyS_pure 6 (v := ?_) (fun _ => trivial) (by simp only [List.getElem?_toArray, List.getElem?_cons_succ, List.getElem?_cons_zero]; rfl) (by kernel_rfl) (fun _ _ _ _ _ h => h) ⟨rfl, (by intro c h; cases h), ?_⟩ hHeld ?_
  rotate_left
  focus (intro wS hSw; (try replace hSw := HSF.out wS hSw); (try dsimp only at hSw); go_simp; (try with_reducible rfl))
  (try simp only [Act.put, List.setIfInBounds_toArray, List.set_cons_zero, List.set_cons_succ])
  refine wpAnyS_take 7 (v := ?_) (fun _ => trivial) (by simp only [List.getElem?_toArray, List.getElem?_cons_succ, List.getElem?_cons_zero]; rfl) (by kernel_rfl) (fun _ _ _ _ _ h => h) ⟨rfl, (by intro c h; cases h), ?_⟩ hHeld ?_
  rotate_left
  focus (intro wS hSw; (try replace hSw := HSF.out wS hSw); (try dsimp only at hSw); go_simp; (try with_reducible rfl))
  (try simp only [Act.put, List.setIfInBounds_toArray, List.set_cons_zero, List.set_cons_succ])
  refine wpAnyS_take 8 (v := ?_) (fun _ => trivial) (by simp only [List.getElem?_toArray, List.getElem?_cons_succ, List.getElem?_cons_zero]; rfl) (by kernel_rfl) (fun _ _ _ _ _ h => h) ⟨rfl, (by intro c h; cases h), ?_⟩ hHeld ?_
  rotate_left
  focus (intro wS hSw; (try replace hSw := HSF.out wS hSw); (try dsimp only at hSw); go_simp; (try with_reducible rfl))
  (try simp only [Act.put, List.setIfInBounds_toArray, List.set_cons_zero, List.set_cons_succ])
  refine wpAnyS_ready [9] (by kernel_rfl) (by simp) (AllReadyS.consL (by simp only [List.getElem?_toArray, List.getElem?_cons_succ, List.getElem?_cons_zero]; rfl) rfl (by kernel_rfl) (fun K hK => ?_) AllReadyS.nil)
  refine callS (by intro c h; cases h) (by go_simp; try with_reducible rfl) (HH.out w5 P5.out.lb) ?_
  intro w6 hq
  obtain ⟨hL, q, hq, hg⟩ := hq
  have P6 := hid (P5.out.desk1 hq hL hg)
  refine hK.out _ _ ?_
  (try simp only [Act.put, List.setIfInBounds_toArray, List.set_cons_zero, List.set_cons_succ])
  clear hK K hL hq hg P5 P4 HSF hHeld BD
  refine wpAnyS_pureL 10 (v := ?_) (fun _ => trivial) (by simp only [List.getElem?_toArray, List.getElem?_cons_succ, List.getElem?_cons_zero]; rfl) (by kernel_rfl) (by kernel_rfl) (fun _ _ _ _ _ h => h) ⟨rfl, (by intro c h; cases h), ?_⟩ ?_
  rotate_left
  focus (intro wS hSw; (try replace hSw := HSF.out wS hSw); (try dsimp only at hSw); go_simp; (try with_reducible rfl))
  (try simp only [Act.put, List.setIfInBounds_toArray, List.set_cons_zero, List.set_cons_succ])
  refine wpAnyS_pureL 11 (v := ?_) (fun _ => trivial) (by simp only [List.getElem?_toArray, List.getElem?_cons_succ, List.getElem?_cons_zero]; rfl) (by kernel_rfl) (by kernel_rfl) (fun _ _ _ _ _ h => h) ⟨rfl, (by intro c h; cases h), ?_⟩ ?_
  rotate_left
  focus (intro wS hSw; (try replace hSw := HSF.out wS hSw); (try dsimp only at hSw); go_simp; (try with_reducible rfl))
  (try simp only [Act.put, List.setIfInBounds_toArray, List.set_cons_zero, List.set_cons_succ])
  refine wpAnyS_done (by kernel_rfl) ?_
  go_wp2_with fail
  go_ret
  exact ⟨rfl, vn1, P6.out⟩
end Go.Proofs.YtappgjdnfllblaaDoor
