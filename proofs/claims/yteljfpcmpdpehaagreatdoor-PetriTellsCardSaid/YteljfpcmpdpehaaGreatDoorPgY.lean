
/- PetriTells: the walk (printed by gen_pgy.py). -/
import Derived.Test.YteljfpcmpdpehaaGreatDoorPhJ
set_option linter.unusedSimpArgs false
set_option linter.unusedVariables false
namespace Go.Proofs.YteljfpcmpdpehaaGreatDoor
open Go.RowKit Go.IntWalk Go.Shelf

/-- Block g holds a net. -/
structure Nx (w : World) (g : Nat) (n : Int) (A : Option Addr) (c : Nat) (T : List Tr) : Prop where
  b : Blk w g 24 #[.int .i64 n, .slice A T.length c]
  s : SlR w w.heap.size A T
theorem Nx.mk' {w : World} {A : Option Addr} {T : List Tr} (n : Int) (c : Nat) (h : SlR w w.heap.size A T) : Nx (w.alloc (Obj.cells #[.int .i64 n, .slice A T.length c] 24)) w.heap.size n A c T :=
  ⟨Blk.new _ _ _, (h.alloc (Nat.le_refl _) _).more (by simp)⟩
theorem Nx.step {w w' : World} {g : Nat} {n : Int} {A : Option Addr} {c : Nat} {T : List Tr} (h : Nx w g n A c T) (hB : Below w.heap.size w w') : Nx w' g n A c T :=
  ⟨h.b.below hB h.b.lt, (h.s.below hB).more hB.size⟩
theorem Nx.cells {w : World} {g : Nat} {n : Int} {A : Option Addr} {c : Nat} {T : List Tr} (h : Nx w g n A c T) : w.cell? ⟨g, 0, none⟩ = some (.int .i64 n) ∧ w.cell? ⟨g, 1, none⟩ = some (.slice A T.length c) := by
  have e0 := h.b.cell 0; have e1 := h.b.cell 1
  simp at e0 e1
  exact ⟨e0, e1⟩
theorem enc_few {n : Int} {T : List Tr} (hb : NetB n T) (hf : fewN n T 70 14 = true) : (encNet n T).length ≤ 90000 := by
  simp only [fewN, Bool.and_eq_true, decide_eq_true_eq, List.all_eq_true] at hf
  obtain ⟨⟨_, h2⟩, h3⟩ := hf
  have one : ∀ t ∈ T, (encTr t).length ≤ 2000 := fun t ht => by
    have h4 := h3 t ht
    simp only [shF, Bool.and_eq_true, decide_eq_true_eq] at h4
    have h5 := hb.tr t ht
    have a1 := encIs_le h5.2.2.1
    have a2 := encIs_le h5.2.2.2
    have b1 := Lib.itoa_length_le (t.1.length : Int) (by omega) (by omega)
    have b2 := Lib.itoa_length_le (t.2.length : Int) (by omega) (by omega)
    unfold encTr encL
    simp only [List.length_append, List.length_map, List.length_cons, List.length_nil]
    omega
  have all : ∀ (L : List Tr), (∀ t ∈ L, (encTr t).length ≤ 2000) → ((L.map encTr).flatten).length ≤ L.length * 2000 := by
    intro L
    induction L with
    | nil => intro _; simp
    | cons x l ih =>
      intro hh
      rw [List.map_cons, List.flatten_cons, List.length_append, List.length_cons]
      have h1 := hh x (by simp)
      have h2 := ih (fun y hy => hh y (by simp [hy]))
      omega
  have h6 := all T one
  have h7 := encI_le hb.n
  have h8 : (encI T.length).length ≤ 22 := encI_le ⟨by omega, by omega⟩
  unfold encNet
  simp only [List.length_append]
  omega
theorem live_both (n : Int) (A : Option Addr) (c : Nat) (T : List Tr) (B : Option Addr) (d : Nat) (m : List Int) (hl : T.length ≤ 5000) (hm : m.length ≤ maxLen) (hn : n = m.length) (hok : netOK (n, T) = true) : ∃ r : List Int, r.length ≤ maxLen ∧
    (∀ W, SlR W W.heap.size A T → SlR W W.heap.size B m → Calls Tryz.prog 30 #[.agg #[.int .i64 n, .slice A T.length c], .slice B m.length d] W (RetLs r W)) ∧
    (∀ W, SlR W W.heap.size A T → SlR W W.heap.size B m → Calls Tryz.prog 31 #[.agg #[.int .i64 n, .slice A T.length c], .slice B m.length d] W (RetLs r W)) := by
  have hb := liveK_len T m T.length
  have hi : ∀ x ∈ liveK T m T.length, I64 x := by
    intro x hx
    unfold liveK at hx
    obtain ⟨i, hi, rfl⟩ := List.mem_map.1 hx
    have := (List.mem_filter.1 hi).1
    rw [List.mem_range] at this
    exact ⟨by omega, by omega⟩
  refine ⟨liveK T m T.length, by unfold maxLen; omega, fun W h1 h2 => (live_any n A c T B d m W hl h1 hm h2 hn hok).mono ?_, fun W h1 h2 => (live_r n A c T B d m W hl h1 hm h2 hn hok).mono ?_⟩ <;>
  · rintro e w' ⟨A', c', rfl, h4, h5⟩
    obtain ⟨A9, c9, e9, _, _, g3⟩ := h4.slr hi
    injection e9 with e1 _ e2
    subst e1 e2
    exact ⟨_, _, rfl, g3, h5⟩
theorem fire_len (n : Int) (T : List Tr) (m : List Int) (t : Int) : (fireN n T m t).1.length ≤ m.length := by
  unfold fireN
  split
  · simp
  · split
    · simp
    · split
      · simp [addN_len]
      · simp
set_option maxRecDepth 100000 in
set_option maxHeartbeats 40000000 in
theorem ptells_any (n : Int) (A B C D : Option Addr) (c cb cc cd : Nat) (T : List Tr) (m s ws : List Int) (t : Int) (text : ByteArray) (w : World) (hn : I64 n) (hl : T.length ≤ maxLen) (hm : m.length ≤ maxLen) (hs : s.length ≤ maxLen) (hw : ws.length ≤ maxLen)
    (h : SlR w w.heap.size A T) (hM : SlR w w.heap.size B m) (hS : SlR w w.heap.size C s) (hW : SlR w w.heap.size D ws) (hE : PEnv w) (he : Env w) :
    Calls Tryz.prog 3 #[.agg #[.int .i64 n, .slice A T.length c], .slice B m.length cb, .slice C s.length cc, .slice D ws.length cd, .int .i64 t, .string text] w fun e w' => e = .returned (.bool true) ∧ Below w.heap.size w w' := by
  obtain ⟨w1, hw1⟩ : ∃ w1, w1 = (w.alloc (Obj.cells #[.int .i64 n, .slice A T.length c] 24)) := ⟨_, rfl⟩
  have B1 := hid (show Below w.heap.size w w1 by rw [hw1]; (repeat (first | exact Below.refl _ _ | assumption | refine below_drewN ?_ _ | refine Below.drew ?_ | refine Below.alloc ?_ (by (try simp); (try omega)) _ | refine Below.setCell ?_ (by (try simp); (try omega)) _)))
  have x1 : Blk w1 w.heap.size 24 #[.int .i64 n, .slice A T.length c] := by rw [hw1]; exact Blk.new w _ _
  have HX := hid (fun (W : World) (hQ : Below w1.heap.size w1 W) => And.intro (show W.cell? ⟨w.heap.size, 0, none⟩ = some (.int .i64 n) from (bcell hQ _ _ x1.lt).trans (by rw [x1.cell]; rfl)) (And.intro (show W.cell? ⟨w.heap.size, 1, none⟩ = some (.slice A T.length c) from (bcell hQ _ _ x1.lt).trans (by rw [x1.cell]; rfl)) (show w.heap.size < W.heap.size from Nat.lt_of_lt_of_le x1.lt hQ.size)))
  have HT := hid (fun (W : World) (hQ : Below w1.heap.size w1 W) => show SlR W W.heap.size A T from (h.below (B1.out.trans (hQ.mono B1.out.size))).more (B1.out.trans (hQ.mono B1.out.size)).size)
  have HM := hid (fun (W : World) (hQ : Below w1.heap.size w1 W) => show SlR W W.heap.size B m from (hM.below (B1.out.trans (hQ.mono B1.out.size))).more (B1.out.trans (hQ.mono B1.out.size)).size)
  have HS := hid (fun (W : World) (hQ : Below w1.heap.size w1 W) => show SlR W W.heap.size C s from (hS.below (B1.out.trans (hQ.mono B1.out.size))).more (B1.out.trans (hQ.mono B1.out.size)).size)
  have HW := hid (fun (W : World) (hQ : Below w1.heap.size w1 W) => show SlR W W.heap.size D ws from (hW.below (B1.out.trans (hQ.mono B1.out.size))).more (B1.out.trans (hQ.mono B1.out.size)).size)
  have HP := hid (fun (W : World) (hQ : Below w1.heap.size w1 W) => (hE.below (B1.out.trans (hQ.mono B1.out.size)) hE.pos : PEnv W))
  have HE := hid (fun (W : World) (hQ : Below w1.heap.size w1 W) => (he.below (B1.out.trans (hQ.mono B1.out.size)) : Env W))
  have HSM := hid (psmall_any w1 (HP.out w1 (Below.refl _ _)))
  have HFW := hid (fun (W : World) (hQ : Below w1.heap.size w1 W) => few_any n A c T 70 14 W hl (HT.out W hQ))
  have HRP := hid (fun (W : World) (hQ : Below w1.heap.size w1 W) => right_any n A c T W hl (HT.out W hQ))
  have HRR := hid (fun (W : World) (hQ : Below w1.heap.size w1 W) => right_r n A c T W hl (HT.out W hQ))
  have HI := hid hn
  have hTI := hid (show ∀ x ∈ T, (∀ y ∈ x.1, I64 y) ∧ (∀ y ∈ x.2, I64 y) from fun x hx => by
    obtain ⟨k, hk, rfl⟩ := List.getElem_of_mem hx
    obtain ⟨_, _, _, _, _, _, _, _, _, _, q1, q2, _, _⟩ := h.tr hk
    exact ⟨q1.ints, q2.ints⟩)
  have HLM := hid (And.intro hl (And.intro hm (And.intro hs hw)))
  clear hn hl hm hs hw h hM hS hW hE he x1
  obtain ⟨y0, y1, z1⟩ := HX.out w1 (Below.refl _ _)
  go_enter Tryz.func3, Tryz.ntmps3
  go_upto_region 1 with fail
  rw [← hw1]
  clear hw1 y0 y1 z1
  go_wp2_with fail
  refine HSM.out.mono ?_
  rintro e w2 ⟨rfl, hB⟩
  have B2 := hid hB
  clear hB HSM
  obtain ⟨y0, y1, z1⟩ := HX.out w2 B2.out
  go_wp2_with fail
  refine (HFW.out w2 B2.out).mono ?_
  rintro e w3 ⟨rfl, hB⟩
  have B3 := hid (B2.out.trans (hB.mono B2.out.size))
  clear hB y0 y1 z1 B2
  cases hfw : fewN n T 70 14 with
  | false =>
    as_aux_lemma =>
      go_wp2_with fail
      go_ret
      exact ⟨rfl, B1.out.trans (B3.out.mono B1.out.size)⟩
  | true =>
  have HNB := hid (netB_few HI.out hfw (by omega) hTI.out)
  have HEL := hid (enc_few HNB.out hfw)
  by_cases hm70 : (70 : Int) < m.length
  case pos =>
    as_aux_lemma =>
      go_wp2_with fail
      go_ret
      exact ⟨rfl, B1.out.trans (B3.out.mono B1.out.size)⟩
  by_cases hs70 : (70 : Int) < s.length
  case pos =>
    as_aux_lemma =>
      go_wp2_with fail
      go_ret
      exact ⟨rfl, B1.out.trans (B3.out.mono B1.out.size)⟩
  by_cases ht300 : (300 : Int) < text.size
  case pos =>
    as_aux_lemma =>
      go_wp2_with fail
      go_ret
      exact ⟨rfl, B1.out.trans (B3.out.mono B1.out.size)⟩
  obtain ⟨na, Ta, ok, hTa, hNa, hea, HR1, HR2⟩ := readn_both text (by omega)
  have HRA := hid HR1
  have HRB := hid HR2
  have HTA := hid hTa
  have HNA := hid hNa
  have HEA := hid hea
  clear HR1 HR2 hTa hNa hea hfw
  go_wp2_with fail
  refine (HRA.out w3 (HE.out w3 B3.out)).mono ?_
  rintro e w4 ⟨A4, c4, rfl, hq, hB⟩
  have B4 := hid (B3.out.trans (hB.mono B3.out.size))
  have XA := hid (Nx.mk' na c4 hq)
  have B5 := hid (B4.out.alloc B4.out.size (Obj.cells #[.int .i64 na, .slice A4 Ta.length c4] 24))
  clear hq hB B4
  obtain ⟨gA, hgA⟩ : ∃ gA, gA = w4.heap.size := ⟨_, rfl⟩
  rw [← hgA] at XA
  go_upto_region 5 with fail
  (try rw [← hgA])
  clear hgA
  generalize (w4.alloc (Obj.cells #[.int .i64 na, .slice A4 Ta.length c4] 24)) = w5 at *
  go_wp2_with fail
  refine (HRB.out w5).mono ?_
  rintro e w6 ⟨A6, c6, rfl, hq, hB⟩
  have B6 := hid (B5.out.trans (hB.mono B5.out.size))
  replace XA := hid (XA.out.step hB)
  have XB := hid (Nx.mk' na c6 hq)
  have hBb := Below.alloc (Below.refl w6.heap.size w6) (Nat.le_refl _) (Obj.cells #[.int .i64 na, .slice A6 Ta.length c6] 24)
  replace XA := hid (XA.out.step hBb)
  have B7 := hid (B6.out.alloc B6.out.size (Obj.cells #[.int .i64 na, .slice A6 Ta.length c6] 24))
  clear hq hB hBb B6
  obtain ⟨gB, hgB⟩ : ∃ gB, gB = w6.heap.size := ⟨_, rfl⟩
  rw [← hgB] at XB
  go_upto_region 6 with fail
  (try rw [← hgB])
  clear hgB HRA HRB B5
  generalize (w6.alloc (Obj.cells #[.int .i64 na, .slice A6 Ta.length c6] 24)) = w7 at *
  have HSF := hid (fun (wq : World) (hq : Below w7.heap.size w7 wq) => And.intro (HX.out wq (B7.out.trans (hq.mono B7.out.size))) (And.intro (XA.out.step hq).cells (XB.out.step hq).cells))
  have HQ := hid (fun (wq : World) (hq : Below w7.heap.size w7 wq) => B7.out.trans (hq.mono B7.out.size))
  have HSE := hid (fun (wq : World) (hq : Below w7.heap.size w7 wq) => show Calls Tryz.prog 10 #[.agg #[.int .i64 na, .slice A4 Ta.length c4], .agg #[.int .i64 na, .slice A6 Ta.length c6]] wq fun e w' => e = .returned (.bool true) ∧ Below wq.heap.size wq w' from by
    have := same_p na na A4 A6 c4 c6 Ta Ta wq (XA.out.step hq).s (XB.out.step hq).s HNA.out HNA.out
    rwa [show decide (encNet na Ta = encNet na Ta) = true from decide_eq_true rfl] at this)
  have HBA := hid (fun (wq : World) (hq : Below w7.heap.size w7 wq) => pbytes_p na A4 c4 Ta wq (XA.out.step hq).s HNA.out (HE.out wq (HQ.out wq hq)))
  clear XA XB
  have BD := hid ((Below.refl w7.heap.size w7).drew)
  have HRP7 := hid (fun (wq : World) (hq : Below w7.heap.size w7 wq) => HRP.out wq (HQ.out wq hq))
  have HRR7 := hid (fun (wq : World) (hq : Below w7.heap.size w7 wq) => HRR.out wq (HQ.out wq hq))
  obtain ⟨nk, hnk⟩ : ∃ nk, nk = netOK (n, T) := ⟨_, rfl⟩
  rw [← hnk] at HRP7 HRR7 HRP
  have HNK := hid hnk
  have HTX := hid (show ok = true → ((bs (encNet na Ta)).toList == text.toList) = true from fun h => by rw [HEA.out h, bs_of]; simp)
  have HTX2 := hid (show ok = true → bs (encNet na Ta) = text from fun h => by rw [HEA.out h, bs_of])
  clear hnk HEA
  go_cut [84] (fun v wx => v = .bool false ∧ Below w7.heap.size w7 wx)
  case first =>
    as_aux_lemma =>
      refine wpIn_wide.1 (wpIn_region_S (n := 0) (fun wq => Below w7.heap.size w7 wq) [] (by kernel_rfl) BD.out (fun hHeld => ?_))
      generalize w7.drew = wd at *
      refine wpAnyG_take 0 (v := ?_) (fun _ => trivial) (by simp only [List.getElem?_toArray, List.getElem?_cons_succ, List.getElem?_cons_zero]; rfl) (by kernel_rfl) (fun _ _ _ _ _ h => h) ⟨(by rfl), (by intro c h; cases h), ?_⟩ hHeld ?_
      rotate_left
      focus (intro wS hSw; (try replace hSw := HSF.out wS hSw); (try dsimp only at hSw); go_simp; (try with_reducible rfl))
      (try simp only [Act.put, List.setIfInBounds_toArray, List.set_cons_zero, List.set_cons_succ])
      refine wpAnyG_take 2 (v := ?_) (fun _ => trivial) (by simp only [List.getElem?_toArray, List.getElem?_cons_succ, List.getElem?_cons_zero]; rfl) (by kernel_rfl) (fun _ _ _ _ _ h => h) ⟨(by rfl), (by intro c h; cases h), ?_⟩ hHeld ?_
      rotate_left
      focus (intro wS hSw; (try replace hSw := HSF.out wS hSw); (try dsimp only at hSw); go_simp; (try with_reducible rfl))
      (try simp only [Act.put, List.setIfInBounds_toArray, List.set_cons_zero, List.set_cons_succ])
      refine wpAnyS_ready [1] (by kernel_rfl) (by simp) (AllReadyS.consG (by simp only [List.getElem?_toArray, List.getElem?_cons_succ, List.getElem?_cons_zero]; rfl) (by rfl) (fun K hK => ?_) AllReadyS.nil)
      refine callS (by intro c h; cases h) (by go_simp; try with_reducible rfl) (HRP7.out _ BD.out) ?_
      intro wa hBq
      have Ba := hid (BD.out.trans (hBq.mono BD.out.size))
      refine hK.out _ _ Ba.out ?_
      (try simp only [Act.put, List.setIfInBounds_toArray, List.set_cons_zero, List.set_cons_succ])
      clear hK K hBq
      clear hHeld
      have hHeld := Ba.out
      refine wpAnyS_ready [3] (by kernel_rfl) (by simp) (AllReadyS.consG (by simp only [List.getElem?_toArray, List.getElem?_cons_succ, List.getElem?_cons_zero]; rfl) (by rfl) (fun K hK => ?_) AllReadyS.nil)
      refine callS (by intro c h; cases h) (by go_simp; try with_reducible rfl) (HRR7.out _ Ba.out) ?_
      intro wb hBq
      have Bb := hid (Ba.out.trans (hBq.mono Ba.out.size))
      refine hK.out _ _ Bb.out ?_
      (try simp only [Act.put, List.setIfInBounds_toArray, List.set_cons_zero, List.set_cons_succ])
      clear hK K hBq
      clear hHeld
      have hHeld := Bb.out
      refine wpAnyG_pure 4 (v := ?_) (fun _ => trivial) (by simp only [List.getElem?_toArray, List.getElem?_cons_succ, List.getElem?_cons_zero]; rfl) (by kernel_rfl) (fun _ _ _ _ _ h => h) ⟨(by rfl), (by intro c h; cases h), ?_⟩ hHeld ?_
      rotate_left
      focus (intro wS hSw; (try replace hSw := HSF.out wS hSw); (try dsimp only at hSw); go_simp; (try with_reducible rfl))
      (try simp only [Act.put, List.setIfInBounds_toArray, List.set_cons_zero, List.set_cons_succ])
      refine wpAnyG_pure 5 (v := ?_) (fun _ => trivial) (by simp only [List.getElem?_toArray, List.getElem?_cons_succ, List.getElem?_cons_zero]; rfl) (by kernel_rfl) (fun _ _ _ _ _ h => h) ⟨(by rfl), (by intro c h; cases h), ?_⟩ hHeld ?_
      rotate_left
      focus (intro wS hSw; (try replace hSw := HSF.out wS hSw); (try dsimp only at hSw); go_simp; (try with_reducible rfl))
      (try simp only [Act.put, List.setIfInBounds_toArray, List.set_cons_zero, List.set_cons_succ])
      refine wpAnyG_pure 6 (v := ?_) (fun _ => trivial) (by simp only [List.getElem?_toArray, List.getElem?_cons_succ, List.getElem?_cons_zero]; rfl) (by kernel_rfl) (fun _ _ _ _ _ h => h) ⟨(by rfl), (by intro c h; cases h), ?_⟩ hHeld ?_
      rotate_left
      focus (intro wS hSw; (try replace hSw := HSF.out wS hSw); (try dsimp only at hSw); go_simp; (try with_reducible rfl))
      (try simp only [Act.put, List.setIfInBounds_toArray, List.set_cons_zero, List.set_cons_succ])
      refine wpAnyG_pure 7 (v := ?_) (fun _ => trivial) (by simp only [List.getElem?_toArray, List.getElem?_cons_succ, List.getElem?_cons_zero]; rfl) (by kernel_rfl) (fun _ _ _ _ _ h => h) ⟨(by rfl), (by intro c h; cases h), ?_⟩ hHeld ?_
      rotate_left
      focus (intro wS hSw; (try replace hSw := HSF.out wS hSw); (try dsimp only at hSw); go_simp; (try with_reducible rfl))
      (try simp only [Act.put, List.setIfInBounds_toArray, List.set_cons_zero, List.set_cons_succ])
      refine wpAnyG_pure 8 (v := ?_) (fun _ => trivial) (by simp only [List.getElem?_toArray, List.getElem?_cons_succ, List.getElem?_cons_zero]; rfl) (by kernel_rfl) (fun _ _ _ _ _ h => h) ⟨(by rfl), (by intro c h; cases h), ?_⟩ hHeld ?_
      rotate_left
      focus (intro wS hSw; (try replace hSw := HSF.out wS hSw); (try dsimp only at hSw); go_simp; (try with_reducible rfl))
      (try simp only [Act.put, List.setIfInBounds_toArray, List.set_cons_zero, List.set_cons_succ])
      refine wpAnyG_pure 9 (v := ?_) (fun _ => trivial) (by simp only [List.getElem?_toArray, List.getElem?_cons_succ, List.getElem?_cons_zero]; rfl) (by kernel_rfl) (fun _ _ _ _ _ h => h) ⟨(by rfl), (by intro c h; cases h), ?_⟩ hHeld ?_
      rotate_left
      focus (intro wS hSw; (try replace hSw := HSF.out wS hSw); (try dsimp only at hSw); go_simp; (try with_reducible rfl))
      (try simp only [Act.put, List.setIfInBounds_toArray, List.set_cons_zero, List.set_cons_succ])
      refine wpAnyG_pure 10 (v := ?_) (fun _ => trivial) (by simp only [List.getElem?_toArray, List.getElem?_cons_succ, List.getElem?_cons_zero]; rfl) (by kernel_rfl) (fun _ _ _ _ _ h => h) ⟨(by rfl), (by intro c h; cases h), ?_⟩ hHeld ?_
      rotate_left
      focus (intro wS hSw; (try replace hSw := HSF.out wS hSw); (try dsimp only at hSw); go_simp; (try with_reducible rfl))
      (try simp only [Act.put, List.setIfInBounds_toArray, List.set_cons_zero, List.set_cons_succ])
      refine wpAnyG_take 11 (v := ?_) (fun _ => trivial) (by simp only [List.getElem?_toArray, List.getElem?_cons_succ, List.getElem?_cons_zero]; rfl) (by kernel_rfl) (fun _ _ _ _ _ h => h) ⟨(by rfl), (by intro c h; cases h), ?_⟩ hHeld ?_
      rotate_left
      focus (intro wS hSw; (try replace hSw := HSF.out wS hSw); (try dsimp only at hSw); go_simp; (try with_reducible rfl))
      (try simp only [Act.put, List.setIfInBounds_toArray, List.set_cons_zero, List.set_cons_succ])
      refine wpAnyG_take 12 (v := ?_) (fun _ => trivial) (by simp only [List.getElem?_toArray, List.getElem?_cons_succ, List.getElem?_cons_zero]; rfl) (by kernel_rfl) (fun _ _ _ _ _ h => h) ⟨(by rfl), (by intro c h; cases h), ?_⟩ hHeld ?_
      rotate_left
      focus (intro wS hSw; (try replace hSw := HSF.out wS hSw); (try dsimp only at hSw); go_simp; (try with_reducible rfl))
      (try simp only [Act.put, List.setIfInBounds_toArray, List.set_cons_zero, List.set_cons_succ])
      refine wpAnyS_ready [13] (by kernel_rfl) (by simp) (AllReadyS.consG (by simp only [List.getElem?_toArray, List.getElem?_cons_succ, List.getElem?_cons_zero]; rfl) (by rfl) (fun K hK => ?_) AllReadyS.nil)
      refine callS (by intro c h; cases h) (by go_simp; try with_reducible rfl) (HSE.out _ Bb.out) ?_
      intro wc9 hBq
      have Bc := hid (Bb.out.trans (hBq.mono Bb.out.size))
      refine hK.out _ _ Bc.out ?_
      (try simp only [Act.put, List.setIfInBounds_toArray, List.set_cons_zero, List.set_cons_succ])
      clear hK K hBq
      clear hHeld
      have hHeld := Bc.out
      cases ok with
      | false =>
        refine wpAnyG_pure 14 (v := ?_) (fun _ => trivial) (by simp only [List.getElem?_toArray, List.getElem?_cons_succ, List.getElem?_cons_zero]; rfl) (by kernel_rfl) (fun _ _ _ _ _ h => h) ⟨(by rfl), (by intro c h; cases h), ?_⟩ hHeld ?_
        rotate_left
        focus (intro wS hSw; (try replace hSw := HSF.out wS hSw); (try dsimp only at hSw); go_simp; (try with_reducible rfl))
        (try simp only [Act.put, List.setIfInBounds_toArray, List.set_cons_zero, List.set_cons_succ])
        refine wpAnyG_pure 15 (v := ?_) (fun _ => trivial) (by simp only [List.getElem?_toArray, List.getElem?_cons_succ, List.getElem?_cons_zero]; rfl) (by kernel_rfl) (fun _ _ _ _ _ h => h) ⟨(by rfl), (by intro c h; cases h), ?_⟩ hHeld ?_
        rotate_left
        focus (intro wS hSw; (try replace hSw := HSF.out wS hSw); (try dsimp only at hSw); go_simp; (try with_reducible rfl))
        (try simp only [Act.put, List.setIfInBounds_toArray, List.set_cons_zero, List.set_cons_succ])
        refine wpAnyG_pure 16 (v := ?_) (fun _ => trivial) (by simp only [List.getElem?_toArray, List.getElem?_cons_succ, List.getElem?_cons_zero]; rfl) (by kernel_rfl) (fun _ _ _ _ _ h => h) ⟨(by rfl), (by intro c h; cases h), ?_⟩ hHeld ?_
        rotate_left
        focus (intro wS hSw; (try replace hSw := HSF.out wS hSw); (try dsimp only at hSw); go_simp; (try with_reducible rfl))
        (try simp only [Act.put, List.setIfInBounds_toArray, List.set_cons_zero, List.set_cons_succ])
        refine wpAnyG_pure 17 (v := ?_) (fun _ => trivial) (by simp only [List.getElem?_toArray, List.getElem?_cons_succ, List.getElem?_cons_zero]; rfl) (by kernel_rfl) (fun _ _ _ _ _ h => h) ⟨(by rfl), (by intro c h; cases h), ?_⟩ hHeld ?_
        rotate_left
        focus (intro wS hSw; (try replace hSw := HSF.out wS hSw); (try dsimp only at hSw); go_simp; (try with_reducible rfl))
        (try simp only [Act.put, List.setIfInBounds_toArray, List.set_cons_zero, List.set_cons_succ])
        refine wpAnyG_pure 18 (v := ?_) (fun _ => trivial) (by simp only [List.getElem?_toArray, List.getElem?_cons_succ, List.getElem?_cons_zero]; rfl) (by kernel_rfl) (fun _ _ _ _ _ h => h) ⟨(by rfl), (by intro c h; cases h), ?_⟩ hHeld ?_
        rotate_left
        focus (intro wS hSw; (try replace hSw := HSF.out wS hSw); (try dsimp only at hSw); go_simp; (try with_reducible rfl))
        (try simp only [Act.put, List.setIfInBounds_toArray, List.set_cons_zero, List.set_cons_succ])
        refine wpAnyG_skip 19 (fun _ => trivial) (by simp only [List.getElem?_toArray, List.getElem?_cons_succ, List.getElem?_cons_zero]; rfl) (by kernel_rfl) (fun _ _ _ _ _ h => h) (by rfl) hHeld ?_
        (try simp only [Act.put, List.setIfInBounds_toArray, List.set_cons_zero, List.set_cons_succ])
        refine wpAnyG_skip 20 (fun _ => trivial) (by simp only [List.getElem?_toArray, List.getElem?_cons_succ, List.getElem?_cons_zero]; rfl) (by kernel_rfl) (fun _ _ _ _ _ h => h) (by rfl) hHeld ?_
        (try simp only [Act.put, List.setIfInBounds_toArray, List.set_cons_zero, List.set_cons_succ])
        refine wpAnyG_skip 21 (fun _ => trivial) (by simp only [List.getElem?_toArray, List.getElem?_cons_succ, List.getElem?_cons_zero]; rfl) (by kernel_rfl) (fun _ _ _ _ _ h => h) (by rfl) hHeld ?_
        (try simp only [Act.put, List.setIfInBounds_toArray, List.set_cons_zero, List.set_cons_succ])
        refine wpAnyG_skip 22 (fun _ => trivial) (by simp only [List.getElem?_toArray, List.getElem?_cons_succ, List.getElem?_cons_zero]; rfl) (by kernel_rfl) (fun _ _ _ _ _ h => h) (by rfl) hHeld ?_
        (try simp only [Act.put, List.setIfInBounds_toArray, List.set_cons_zero, List.set_cons_succ])
        refine wpAnyG_pure 23 (v := ?_) (fun _ => trivial) (by simp only [List.getElem?_toArray, List.getElem?_cons_succ, List.getElem?_cons_zero]; rfl) (by kernel_rfl) (fun _ _ _ _ _ h => h) ⟨(by rfl), (by intro c h; cases h), ?_⟩ hHeld ?_
        rotate_left
        focus (intro wS hSw; (try replace hSw := HSF.out wS hSw); (try dsimp only at hSw); go_simp; (try with_reducible rfl))
        (try simp only [Act.put, List.setIfInBounds_toArray, List.set_cons_zero, List.set_cons_succ])
        refine wpAnyG_pure 24 (v := ?_) (fun _ => trivial) (by simp only [List.getElem?_toArray, List.getElem?_cons_succ, List.getElem?_cons_zero]; rfl) (by kernel_rfl) (fun _ _ _ _ _ h => h) ⟨(by rfl), (by intro c h; cases h), ?_⟩ hHeld ?_
        rotate_left
        focus (intro wS hSw; (try replace hSw := HSF.out wS hSw); (try dsimp only at hSw); go_simp; (try with_reducible rfl))
        (try simp only [Act.put, List.setIfInBounds_toArray, List.set_cons_zero, List.set_cons_succ])
        refine wpAnyS_done (by kernel_rfl) ?_
        clear hHeld HSF
        go_wp2_with fail
        go_meet
        exact ⟨rfl, Bc.out⟩
      | true =>
        have h1 := HTX2.out rfl
        rw [h1] at HBA
        refine wpAnyG_pure 14 (v := ?_) (fun _ => trivial) (by simp only [List.getElem?_toArray, List.getElem?_cons_succ, List.getElem?_cons_zero]; rfl) (by kernel_rfl) (fun _ _ _ _ _ h => h) ⟨(by rfl), (by intro c h; cases h), ?_⟩ hHeld ?_
        rotate_left
        focus (intro wS hSw; (try replace hSw := HSF.out wS hSw); (try dsimp only at hSw); go_simp; (try with_reducible rfl))
        (try simp only [Act.put, List.setIfInBounds_toArray, List.set_cons_zero, List.set_cons_succ])
        refine wpAnyG_pure 15 (v := ?_) (fun _ => trivial) (by simp only [List.getElem?_toArray, List.getElem?_cons_succ, List.getElem?_cons_zero]; rfl) (by kernel_rfl) (fun _ _ _ _ _ h => h) ⟨(by rfl), (by intro c h; cases h), ?_⟩ hHeld ?_
        rotate_left
        focus (intro wS hSw; (try replace hSw := HSF.out wS hSw); (try dsimp only at hSw); go_simp; (try with_reducible rfl))
        (try simp only [Act.put, List.setIfInBounds_toArray, List.set_cons_zero, List.set_cons_succ])
        refine wpAnyG_pure 16 (v := ?_) (fun _ => trivial) (by simp only [List.getElem?_toArray, List.getElem?_cons_succ, List.getElem?_cons_zero]; rfl) (by kernel_rfl) (fun _ _ _ _ _ h => h) ⟨(by rfl), (by intro c h; cases h), ?_⟩ hHeld ?_
        rotate_left
        focus (intro wS hSw; (try replace hSw := HSF.out wS hSw); (try dsimp only at hSw); go_simp; (try with_reducible rfl))
        (try simp only [Act.put, List.setIfInBounds_toArray, List.set_cons_zero, List.set_cons_succ])
        refine wpAnyG_pure 17 (v := ?_) (fun _ => trivial) (by simp only [List.getElem?_toArray, List.getElem?_cons_succ, List.getElem?_cons_zero]; rfl) (by kernel_rfl) (fun _ _ _ _ _ h => h) ⟨(by rfl), (by intro c h; cases h), ?_⟩ hHeld ?_
        rotate_left
        focus (intro wS hSw; (try replace hSw := HSF.out wS hSw); (try dsimp only at hSw); go_simp; (try with_reducible rfl))
        (try simp only [Act.put, List.setIfInBounds_toArray, List.set_cons_zero, List.set_cons_succ])
        refine wpAnyG_pure 18 (v := ?_) (fun _ => trivial) (by simp only [List.getElem?_toArray, List.getElem?_cons_succ, List.getElem?_cons_zero]; rfl) (by kernel_rfl) (fun _ _ _ _ _ h => h) ⟨(by rfl), (by intro c h; cases h), ?_⟩ hHeld ?_
        rotate_left
        focus (intro wS hSw; (try replace hSw := HSF.out wS hSw); (try dsimp only at hSw); go_simp; (try with_reducible rfl))
        (try simp only [Act.put, List.setIfInBounds_toArray, List.set_cons_zero, List.set_cons_succ])
        refine wpAnyG_take 19 (v := ?_) (fun _ => trivial) (by simp only [List.getElem?_toArray, List.getElem?_cons_succ, List.getElem?_cons_zero]; rfl) (by kernel_rfl) (fun _ _ _ _ _ h => h) ⟨(by rfl), (by intro c h; cases h), ?_⟩ hHeld ?_
        rotate_left
        focus (intro wS hSw; (try replace hSw := HSF.out wS hSw); (try dsimp only at hSw); go_simp; (try with_reducible rfl))
        (try simp only [Act.put, List.setIfInBounds_toArray, List.set_cons_zero, List.set_cons_succ])
        refine wpAnyG_pure 21 (v := ?_) (fun _ => trivial) (by simp only [List.getElem?_toArray, List.getElem?_cons_succ, List.getElem?_cons_zero]; rfl) (by kernel_rfl) (fun _ _ _ _ _ h => h) ⟨(by rfl), (by intro c h; cases h), ?_⟩ hHeld ?_
        rotate_left
        focus (intro wS hSw; (try replace hSw := HSF.out wS hSw); (try dsimp only at hSw); go_simp; (try with_reducible rfl))
        (try simp only [Act.put, List.setIfInBounds_toArray, List.set_cons_zero, List.set_cons_succ])
        refine wpAnyS_ready [20] (by kernel_rfl) (by simp) (AllReadyS.consG (by simp only [List.getElem?_toArray, List.getElem?_cons_succ, List.getElem?_cons_zero]; rfl) (by rfl) (fun K hK => ?_) AllReadyS.nil)
        refine callS (by intro c h; cases h) (by go_simp; try with_reducible rfl) (HBA.out _ Bc.out) ?_
        intro wd9 hBq
        have Bd := hid (Bc.out.trans (hBq.mono Bc.out.size))
        refine hK.out _ _ Bd.out ?_
        (try simp only [Act.put, List.setIfInBounds_toArray, List.set_cons_zero, List.set_cons_succ])
        clear hK K hBq
        clear hHeld
        have hHeld := Bd.out
        refine wpAnyG_pure 22 (v := ?_) (fun _ => trivial) (by simp only [List.getElem?_toArray, List.getElem?_cons_succ, List.getElem?_cons_zero]; rfl) (by kernel_rfl) (fun _ _ _ _ _ h => h) ⟨(by rfl), (by intro c h; cases h), ?_⟩ hHeld ?_
        rotate_left
        focus (intro wS hSw; (try replace hSw := HSF.out wS hSw); (try dsimp only at hSw); go_simp; (try with_reducible rfl))
        (try simp only [Act.put, List.setIfInBounds_toArray, List.set_cons_zero, List.set_cons_succ])
        refine wpAnyG_pure 23 (v := ?_) (fun _ => trivial) (by simp only [List.getElem?_toArray, List.getElem?_cons_succ, List.getElem?_cons_zero]; rfl) (by kernel_rfl) (fun _ _ _ _ _ h => h) ⟨(by rfl), (by intro c h; cases h), ?_⟩ hHeld ?_
        rotate_left
        focus (intro wS hSw; (try replace hSw := HSF.out wS hSw); (try dsimp only at hSw); go_simp; (try with_reducible rfl))
        (try simp only [Act.put, List.setIfInBounds_toArray, List.set_cons_zero, List.set_cons_succ])
        refine wpAnyG_pure 24 (v := ?_) (fun _ => trivial) (by simp only [List.getElem?_toArray, List.getElem?_cons_succ, List.getElem?_cons_zero]; rfl) (by kernel_rfl) (fun _ _ _ _ _ h => h) ⟨(by rfl), (by intro c h; cases h), ?_⟩ hHeld ?_
        rotate_left
        focus (intro wS hSw; (try replace hSw := HSF.out wS hSw); (try dsimp only at hSw); go_simp; (try with_reducible rfl))
        (try simp only [Act.put, List.setIfInBounds_toArray, List.set_cons_zero, List.set_cons_succ])
        refine wpAnyS_done (by kernel_rfl) ?_
        clear hHeld HSF
        go_wp2_with fail
        go_meet
        exact ⟨rfl, Bd.out⟩
  case rest =>
    obtain ⟨rfl, hB⟩ := hcut
    have B8 := hid (B7.out.trans (hB.mono B7.out.size))
    clear hB HSF HSE HBA HRP7 HRR7 BD HQ HTX HTX2 HNA HTA
    obtain ⟨y0, y1, z1⟩ := HX.out wc B8.out
    cases nk with
    | false =>
      as_aux_lemma =>
        go_wp2_with fail
        refine (HRP.out wc B8.out).mono ?_
        rintro e w9 ⟨rfl, hB⟩
        have B9 := hid (B8.out.trans (hB.mono B8.out.size))
        clear hB
        go_wp2_with fail
        go_ret
        exact ⟨rfl, B1.out.trans (B9.out.mono B1.out.size)⟩
    | true =>
    have hok := HNK.out.symm
    go_wp2_with fail
    refine (HRP.out wc B8.out).mono ?_
    rintro e w9 ⟨rfl, hB⟩
    have B9 := hid (B8.out.trans (hB.mono B8.out.size))
    clear hB y0 y1 z1 B8
    obtain ⟨y0, y1, z1⟩ := HX.out w9 B9.out
    go_wp2_with fail
    refine (pbytes_p n A c T w9 (HT.out w9 B9.out) HNB.out (HE.out w9 B9.out)).mono ?_
    rintro e w10 ⟨rfl, hB⟩
    have B10 := hid (B9.out.trans (hB.mono B9.out.size))
    clear hB y0 y1 z1 B9
    go_wp2_with fail
    refine (readn_enc n T hok HNB.out (bs (encNet n T)) (by simp [bs]) (by rw [bs_size]; exact HEL.out) w10 (HE.out w10 B10.out)).mono ?_
    rintro e w11 ⟨A11, c11, rfl, hq, hB⟩
    have B11 := hid (B10.out.trans (hB.mono B10.out.size))
    have XC := hid (Nx.mk' n c11 hq)
    have B12 := hid (B11.out.alloc B11.out.size (Obj.cells #[.int .i64 n, .slice A11 T.length c11] 24))
    clear hq hB B11
    obtain ⟨gC, hgC⟩ : ∃ gC, gC = w11.heap.size := ⟨_, rfl⟩
    rw [← hgC] at XC
    go_upto_region 11 with fail
    (try rw [← hgC])
    clear hgC
    generalize (w11.alloc (Obj.cells #[.int .i64 n, .slice A11 T.length c11] 24)) = w12 at *
    have HL9 := HLM.out
    obtain ⟨r1, hr1, HLA, HLB⟩ := largest_both n A c T C cc s true HL9.1 HL9.2.2.1 hok
    obtain ⟨r2, hr2, HLC, HLD⟩ := largest_both n A c T C cc s false HL9.1 HL9.2.2.1 hok
    have HQ := hid (fun (wq : World) (hq : Below w12.heap.size w12 wq) => B12.out.trans (hq.mono B12.out.size))
    have HSF := hid (fun (wq : World) (hq : Below w12.heap.size w12 wq) => And.intro (HX.out wq (HQ.out wq hq)) (XC.out.step hq).cells)
    have HS1 := hid (fun (wq : World) (hq : Below w12.heap.size w12 wq) => siphon_any n A c T C cc s wq HL9.1 (HT.out wq (HQ.out wq hq)) HL9.2.2.1 (HS.out wq (HQ.out wq hq)) hok)
    have HS2 := hid (fun (wq : World) (hq : Below w12.heap.size w12 wq) => siphon_r n A c T C cc s wq HL9.1 (HT.out wq (HQ.out wq hq)) HL9.2.2.1 (HS.out wq (HQ.out wq hq)) hok)
    have HT1 := hid (fun (wq : World) (hq : Below w12.heap.size w12 wq) => trap_any n A c T C cc s wq HL9.1 (HT.out wq (HQ.out wq hq)) HL9.2.2.1 (HS.out wq (HQ.out wq hq)) hok)
    have HT2 := hid (fun (wq : World) (hq : Below w12.heap.size w12 wq) => trap_r n A c T C cc s wq HL9.1 (HT.out wq (HQ.out wq hq)) HL9.2.2.1 (HS.out wq (HQ.out wq hq)) hok)
    have G1 := hid (fun (wq : World) (hq : Below w12.heap.size w12 wq) => HLA wq (HT.out wq (HQ.out wq hq)) (HS.out wq (HQ.out wq hq)) (HP.out wq (HQ.out wq hq)))
    have G2 := hid (fun (wq : World) (hq : Below w12.heap.size w12 wq) => HLB wq (HT.out wq (HQ.out wq hq)) (HS.out wq (HQ.out wq hq)))
    have G3 := hid (fun (wq : World) (hq : Below w12.heap.size w12 wq) => HLC wq (HT.out wq (HQ.out wq hq)) (HS.out wq (HQ.out wq hq)) (HP.out wq (HQ.out wq hq)))
    have G4 := hid (fun (wq : World) (hq : Below w12.heap.size w12 wq) => HLD wq (HT.out wq (HQ.out wq hq)) (HS.out wq (HQ.out wq hq)))
    unfold RetLs at G1 G2 G3 G4
    have HSE := hid (fun (wq : World) (hq : Below w12.heap.size w12 wq) => show Calls Tryz.prog 10 #[.agg #[.int .i64 n, .slice A11 T.length c11], .agg #[.int .i64 n, .slice A T.length c]] wq fun e w' => e = .returned (.bool true) ∧ Below wq.heap.size wq w' from by
      have := same_p n n A11 A c11 c T T wq (XC.out.step hq).s (HT.out wq (HQ.out wq hq)) HNB.out HNB.out
      rwa [show decide (encNet n T = encNet n T) = true from decide_eq_true rfl] at this)
    have HMP := hid (fun (wq : World) (hq : Below w12.heap.size w12 wq) => mark_any n A c T B cb m wq HL9.2.1 (HM.out wq (HQ.out wq hq)))
    have HMR := hid (fun (wq : World) (hq : Below w12.heap.size w12 wq) => mark_r n A c T B cb m wq HL9.2.1 (HM.out wq (HQ.out wq hq)))
    have HLMH := hid HL9
    clear HLA HLB HLC HLD HL9
    generalize isN n T false s = q1 at *
    generalize isN n T true s = q2 at *
    have BD := hid ((Below.refl w12.heap.size w12).drew)
    go_cut [20] (fun v wx => v = .bool true ∧ Below w12.heap.size w12 wx)
    case first =>
      as_aux_lemma =>
        refine wpIn_wide.1 (wpIn_region_S (n := 0) (fun wq => Below w12.heap.size w12 wq) [] (by kernel_rfl) BD.out (fun hHeld => ?_))
        generalize w12.drew = wd at *
        refine wpAnyG_take 0 (v := ?_) (fun _ => trivial) (by simp only [List.getElem?_toArray, List.getElem?_cons_succ, List.getElem?_cons_zero]; rfl) (by kernel_rfl) (fun _ _ _ _ _ h => h) ⟨(by rfl), (by intro c h; cases h), ?_⟩ hHeld ?_
        rotate_left
        focus (intro wS hSw; (try replace hSw := HSF.out wS hSw); (try dsimp only at hSw); go_simp; (try with_reducible rfl))
        (try simp only [Act.put, List.setIfInBounds_toArray, List.set_cons_zero, List.set_cons_succ])
        refine wpAnyG_pure 1 (v := ?_) (fun _ => trivial) (by simp only [List.getElem?_toArray, List.getElem?_cons_succ, List.getElem?_cons_zero]; rfl) (by kernel_rfl) (fun _ _ _ _ _ h => h) ⟨(by rfl), (by intro c h; cases h), ?_⟩ hHeld ?_
        rotate_left
        focus (intro wS hSw; (try replace hSw := HSF.out wS hSw); (try dsimp only at hSw); go_simp; (try with_reducible rfl))
        (try simp only [Act.put, List.setIfInBounds_toArray, List.set_cons_zero, List.set_cons_succ])
        refine wpAnyG_take 3 (v := ?_) (fun _ => trivial) (by simp only [List.getElem?_toArray, List.getElem?_cons_succ, List.getElem?_cons_zero]; rfl) (by kernel_rfl) (fun _ _ _ _ _ h => h) ⟨(by rfl), (by intro c h; cases h), ?_⟩ hHeld ?_
        rotate_left
        focus (intro wS hSw; (try replace hSw := HSF.out wS hSw); (try dsimp only at hSw); go_simp; (try with_reducible rfl))
        (try simp only [Act.put, List.setIfInBounds_toArray, List.set_cons_zero, List.set_cons_succ])
        refine wpAnyG_pure 4 (v := ?_) (fun _ => trivial) (by simp only [List.getElem?_toArray, List.getElem?_cons_succ, List.getElem?_cons_zero]; rfl) (by kernel_rfl) (fun _ _ _ _ _ h => h) ⟨(by rfl), (by intro c h; cases h), ?_⟩ hHeld ?_
        rotate_left
        focus (intro wS hSw; (try replace hSw := HSF.out wS hSw); (try dsimp only at hSw); go_simp; (try with_reducible rfl))
        (try simp only [Act.put, List.setIfInBounds_toArray, List.set_cons_zero, List.set_cons_succ])
        refine wpAnyS_ready [2] (by kernel_rfl) (by simp) (AllReadyS.consG (by simp only [List.getElem?_toArray, List.getElem?_cons_succ, List.getElem?_cons_zero]; rfl) (by rfl) (fun K hK => ?_) AllReadyS.nil)
        refine callS (by intro c h; cases h) (by go_simp; try with_reducible rfl) (HS1.out _ BD.out) ?_
        intro wa hBq
        have Ba := hid (BD.out.trans (hBq.mono BD.out.size))
        refine hK.out _ _ Ba.out ?_
        (try simp only [Act.put, List.setIfInBounds_toArray, List.set_cons_zero, List.set_cons_succ])
        clear hK K hBq
        clear hHeld
        have hHeld := Ba.out
        refine wpAnyS_ready [5] (by kernel_rfl) (by simp) (AllReadyS.consG (by simp only [List.getElem?_toArray, List.getElem?_cons_succ, List.getElem?_cons_zero]; rfl) (by rfl) (fun K hK => ?_) AllReadyS.nil)
        refine callS (by intro c h; cases h) (by go_simp; try with_reducible rfl) (HS2.out _ Ba.out) ?_
        intro wb hBq
        have Bb := hid (Ba.out.trans (hBq.mono Ba.out.size))
        refine hK.out _ _ Bb.out ?_
        (try simp only [Act.put, List.setIfInBounds_toArray, List.set_cons_zero, List.set_cons_succ])
        clear hK K hBq
        clear hHeld
        have hHeld := Bb.out
        refine wpAnyG_pure 6 (v := ?_) (fun _ => trivial) (by simp only [List.getElem?_toArray, List.getElem?_cons_succ, List.getElem?_cons_zero]; rfl) (by kernel_rfl) (fun _ _ _ _ _ h => h) ⟨(by rfl), (by intro c h; cases h), ?_⟩ hHeld ?_
        rotate_left
        focus (intro wS hSw; (try replace hSw := HSF.out wS hSw); (try dsimp only at hSw); go_simp; (try with_reducible rfl))
        (try simp only [Act.put, List.setIfInBounds_toArray, List.set_cons_zero, List.set_cons_succ])
        refine wpAnyG_pure 7 (v := ?_) (fun _ => trivial) (by simp only [List.getElem?_toArray, List.getElem?_cons_succ, List.getElem?_cons_zero]; rfl) (by kernel_rfl) (fun _ _ _ _ _ h => h) ⟨(by rfl), (by intro c h; cases h), ?_⟩ hHeld ?_
        rotate_left
        focus (intro wS hSw; (try replace hSw := HSF.out wS hSw); (try dsimp only at hSw); go_simp; (try with_reducible rfl))
        (try simp only [Act.put, List.setIfInBounds_toArray, List.set_cons_zero, List.set_cons_succ])
        refine wpAnyG_take 8 (v := ?_) (fun _ => trivial) (by simp only [List.getElem?_toArray, List.getElem?_cons_succ, List.getElem?_cons_zero]; rfl) (by kernel_rfl) (fun _ _ _ _ _ h => h) ⟨(by rfl), (by intro c h; cases h), ?_⟩ hHeld ?_
        rotate_left
        focus (intro wS hSw; (try replace hSw := HSF.out wS hSw); (try dsimp only at hSw); go_simp; (try with_reducible rfl))
        (try simp only [Act.put, List.setIfInBounds_toArray, List.set_cons_zero, List.set_cons_succ])
        refine wpAnyG_pure 9 (v := ?_) (fun _ => trivial) (by simp only [List.getElem?_toArray, List.getElem?_cons_succ, List.getElem?_cons_zero]; rfl) (by kernel_rfl) (fun _ _ _ _ _ h => h) ⟨(by rfl), (by intro c h; cases h), ?_⟩ hHeld ?_
        rotate_left
        focus (intro wS hSw; (try replace hSw := HSF.out wS hSw); (try dsimp only at hSw); go_simp; (try with_reducible rfl))
        (try simp only [Act.put, List.setIfInBounds_toArray, List.set_cons_zero, List.set_cons_succ])
        refine wpAnyG_take 11 (v := ?_) (fun _ => trivial) (by simp only [List.getElem?_toArray, List.getElem?_cons_succ, List.getElem?_cons_zero]; rfl) (by kernel_rfl) (fun _ _ _ _ _ h => h) ⟨(by rfl), (by intro c h; cases h), ?_⟩ hHeld ?_
        rotate_left
        focus (intro wS hSw; (try replace hSw := HSF.out wS hSw); (try dsimp only at hSw); go_simp; (try with_reducible rfl))
        (try simp only [Act.put, List.setIfInBounds_toArray, List.set_cons_zero, List.set_cons_succ])
        refine wpAnyG_pure 12 (v := ?_) (fun _ => trivial) (by simp only [List.getElem?_toArray, List.getElem?_cons_succ, List.getElem?_cons_zero]; rfl) (by kernel_rfl) (fun _ _ _ _ _ h => h) ⟨(by rfl), (by intro c h; cases h), ?_⟩ hHeld ?_
        rotate_left
        focus (intro wS hSw; (try replace hSw := HSF.out wS hSw); (try dsimp only at hSw); go_simp; (try with_reducible rfl))
        (try simp only [Act.put, List.setIfInBounds_toArray, List.set_cons_zero, List.set_cons_succ])
        refine wpAnyS_ready [10] (by kernel_rfl) (by simp) (AllReadyS.consG (by simp only [List.getElem?_toArray, List.getElem?_cons_succ, List.getElem?_cons_zero]; rfl) (by rfl) (fun K hK => ?_) AllReadyS.nil)
        refine callS (by intro c h; cases h) (by go_simp; try with_reducible rfl) (HT1.out _ Bb.out) ?_
        intro wc9 hBq
        have Bc := hid (Bb.out.trans (hBq.mono Bb.out.size))
        refine hK.out _ _ Bc.out ?_
        (try simp only [Act.put, List.setIfInBounds_toArray, List.set_cons_zero, List.set_cons_succ])
        clear hK K hBq
        clear hHeld
        have hHeld := Bc.out
        refine wpAnyS_ready [13] (by kernel_rfl) (by simp) (AllReadyS.consG (by simp only [List.getElem?_toArray, List.getElem?_cons_succ, List.getElem?_cons_zero]; rfl) (by rfl) (fun K hK => ?_) AllReadyS.nil)
        refine callS (by intro c h; cases h) (by go_simp; try with_reducible rfl) (HT2.out _ Bc.out) ?_
        intro wd9 hBq
        have Bd := hid (Bc.out.trans (hBq.mono Bc.out.size))
        refine hK.out _ _ Bd.out ?_
        (try simp only [Act.put, List.setIfInBounds_toArray, List.set_cons_zero, List.set_cons_succ])
        clear hK K hBq
        clear hHeld
        have hHeld := Bd.out
        refine wpAnyG_pure 14 (v := ?_) (fun _ => trivial) (by simp only [List.getElem?_toArray, List.getElem?_cons_succ, List.getElem?_cons_zero]; rfl) (by kernel_rfl) (fun _ _ _ _ _ h => h) ⟨(by rfl), (by intro c h; cases h), ?_⟩ hHeld ?_
        rotate_left
        focus (intro wS hSw; (try replace hSw := HSF.out wS hSw); (try dsimp only at hSw); go_simp; (try with_reducible rfl))
        (try simp only [Act.put, List.setIfInBounds_toArray, List.set_cons_zero, List.set_cons_succ])
        refine wpAnyG_pure 15 (v := ?_) (fun _ => trivial) (by simp only [List.getElem?_toArray, List.getElem?_cons_succ, List.getElem?_cons_zero]; rfl) (by kernel_rfl) (fun _ _ _ _ _ h => h) ⟨(by rfl), (by intro c h; cases h), ?_⟩ hHeld ?_
        rotate_left
        focus (intro wS hSw; (try replace hSw := HSF.out wS hSw); (try dsimp only at hSw); go_simp; (try with_reducible rfl))
        (try simp only [Act.put, List.setIfInBounds_toArray, List.set_cons_zero, List.set_cons_succ])
        refine wpAnyG_pure 16 (v := ?_) (fun _ => trivial) (by simp only [List.getElem?_toArray, List.getElem?_cons_succ, List.getElem?_cons_zero]; rfl) (by kernel_rfl) (fun _ _ _ _ _ h => h) ⟨(by rfl), (by intro c h; cases h), ?_⟩ hHeld ?_
        rotate_left
        focus (intro wS hSw; (try replace hSw := HSF.out wS hSw); (try dsimp only at hSw); go_simp; (try with_reducible rfl))
        (try simp only [Act.put, List.setIfInBounds_toArray, List.set_cons_zero, List.set_cons_succ])
        refine wpAnyG_take 17 (v := ?_) (fun _ => trivial) (by simp only [List.getElem?_toArray, List.getElem?_cons_succ, List.getElem?_cons_zero]; rfl) (by kernel_rfl) (fun _ _ _ _ _ h => h) ⟨(by rfl), (by intro c h; cases h), ?_⟩ hHeld ?_
        rotate_left
        focus (intro wS hSw; (try replace hSw := HSF.out wS hSw); (try dsimp only at hSw); go_simp; (try with_reducible rfl))
        (try simp only [Act.put, List.setIfInBounds_toArray, List.set_cons_zero, List.set_cons_succ])
        refine wpAnyG_pure 18 (v := ?_) (fun _ => trivial) (by simp only [List.getElem?_toArray, List.getElem?_cons_succ, List.getElem?_cons_zero]; rfl) (by kernel_rfl) (fun _ _ _ _ _ h => h) ⟨(by rfl), (by intro c h; cases h), ?_⟩ hHeld ?_
        rotate_left
        focus (intro wS hSw; (try replace hSw := HSF.out wS hSw); (try dsimp only at hSw); go_simp; (try with_reducible rfl))
        (try simp only [Act.put, List.setIfInBounds_toArray, List.set_cons_zero, List.set_cons_succ])
        refine wpAnyG_take 20 (v := ?_) (fun _ => trivial) (by simp only [List.getElem?_toArray, List.getElem?_cons_succ, List.getElem?_cons_zero]; rfl) (by kernel_rfl) (fun _ _ _ _ _ h => h) ⟨(by rfl), (by intro c h; cases h), ?_⟩ hHeld ?_
        rotate_left
        focus (intro wS hSw; (try replace hSw := HSF.out wS hSw); (try dsimp only at hSw); go_simp; (try with_reducible rfl))
        (try simp only [Act.put, List.setIfInBounds_toArray, List.set_cons_zero, List.set_cons_succ])
        refine wpAnyG_pure 21 (v := ?_) (fun _ => trivial) (by simp only [List.getElem?_toArray, List.getElem?_cons_succ, List.getElem?_cons_zero]; rfl) (by kernel_rfl) (fun _ _ _ _ _ h => h) ⟨(by rfl), (by intro c h; cases h), ?_⟩ hHeld ?_
        rotate_left
        focus (intro wS hSw; (try replace hSw := HSF.out wS hSw); (try dsimp only at hSw); go_simp; (try with_reducible rfl))
        (try simp only [Act.put, List.setIfInBounds_toArray, List.set_cons_zero, List.set_cons_succ])
        refine wpAnyS_ready [19] (by kernel_rfl) (by simp) (AllReadyS.consG (by simp only [List.getElem?_toArray, List.getElem?_cons_succ, List.getElem?_cons_zero]; rfl) (by rfl) (fun K hK => ?_) AllReadyS.nil)
        refine callV (R := fun v w' => ∃ (A5 : Option Addr) (c5 : Nat), v = .slice A5 r1.length c5 ∧ SlR w' w'.heap.size A5 r1 ∧ Below _ _ w') (by intro c h; cases h) (by go_simp; try with_reducible rfl) ((G1.out _ Bd.out).mono (fun e w' ⟨A', c', he, hs, hb⟩ => ⟨_, he, A', c', rfl, hs, hb⟩)) ?_
        rintro v we ⟨A21, c21, rfl, hs, hBq⟩
        have Be := hid (Bd.out.trans (hBq.mono Bd.out.size))
        have S1 := hid hs
        refine hK.out _ _ Be.out ?_
        (try simp only [Act.put, List.setIfInBounds_toArray, List.set_cons_zero, List.set_cons_succ])
        clear hK K hHeld hBq hs
        have hHeld := Be.out
        refine wpAnyS_ready [22] (by kernel_rfl) (by simp) (AllReadyS.consG (by simp only [List.getElem?_toArray, List.getElem?_cons_succ, List.getElem?_cons_zero]; rfl) (by rfl) (fun K hK => ?_) AllReadyS.nil)
        refine callV (R := fun v w' => ∃ (A5 : Option Addr) (c5 : Nat), v = .slice A5 r1.length c5 ∧ SlR w' w'.heap.size A5 r1 ∧ Below _ _ w') (by intro c h; cases h) (by go_simp; try with_reducible rfl) ((G2.out _ Be.out).mono (fun e w' ⟨A', c', he, hs, hb⟩ => ⟨_, he, A', c', rfl, hs, hb⟩)) ?_
        rintro v wf ⟨A22, c22, rfl, hs, hBq⟩
        have Bf := hid (Be.out.trans (hBq.mono Be.out.size))
        have S2 := hid hs
        replace S1 := hid ((S1.out.below hBq).more hBq.size)
        refine hK.out _ _ Bf.out ?_
        (try simp only [Act.put, List.setIfInBounds_toArray, List.set_cons_zero, List.set_cons_succ])
        clear hK K hHeld hBq hs
        have hHeld := Bf.out
        have HSS := hid (same_any A21 A22 c21 c22 r1 r1 _ hr1 hr1 S1.out S2.out)
        rw [show decide (r1 = r1) = true from decide_eq_true rfl] at HSS
        refine wpAnyS_ready [23] (by kernel_rfl) (by simp) (AllReadyS.consG (by simp only [List.getElem?_toArray, List.getElem?_cons_succ, List.getElem?_cons_zero]; rfl) (by rfl) (fun K hK => ?_) AllReadyS.nil)
        refine callS (by intro c h; cases h) (by go_simp; try with_reducible rfl) HSS.out ?_
        intro wg hBq
        have Bg := hid (Bf.out.trans (hBq.mono Bf.out.size))
        refine hK.out _ _ Bg.out ?_
        (try simp only [Act.put, List.setIfInBounds_toArray, List.set_cons_zero, List.set_cons_succ])
        clear hK K hBq
        clear hHeld
        have hHeld := Bg.out
        clear HSS
        refine wpAnyG_pure 24 (v := ?_) (fun _ => trivial) (by simp only [List.getElem?_toArray, List.getElem?_cons_succ, List.getElem?_cons_zero]; rfl) (by kernel_rfl) (fun _ _ _ _ _ h => h) ⟨(by rfl), (by intro c h; cases h), ?_⟩ hHeld ?_
        rotate_left
        focus (intro wS hSw; (try replace hSw := HSF.out wS hSw); (try dsimp only at hSw); go_simp; (try with_reducible rfl))
        (try simp only [Act.put, List.setIfInBounds_toArray, List.set_cons_zero, List.set_cons_succ])
        refine wpAnyG_pure 25 (v := ?_) (fun _ => trivial) (by simp only [List.getElem?_toArray, List.getElem?_cons_succ, List.getElem?_cons_zero]; rfl) (by kernel_rfl) (fun _ _ _ _ _ h => h) ⟨(by rfl), (by intro c h; cases h), ?_⟩ hHeld ?_
        rotate_left
        focus (intro wS hSw; (try replace hSw := HSF.out wS hSw); (try dsimp only at hSw); go_simp; (try with_reducible rfl))
        (try simp only [Act.put, List.setIfInBounds_toArray, List.set_cons_zero, List.set_cons_succ])
        refine wpAnyG_take 26 (v := ?_) (fun _ => trivial) (by simp only [List.getElem?_toArray, List.getElem?_cons_succ, List.getElem?_cons_zero]; rfl) (by kernel_rfl) (fun _ _ _ _ _ h => h) ⟨(by rfl), (by intro c h; cases h), ?_⟩ hHeld ?_
        rotate_left
        focus (intro wS hSw; (try replace hSw := HSF.out wS hSw); (try dsimp only at hSw); go_simp; (try with_reducible rfl))
        (try simp only [Act.put, List.setIfInBounds_toArray, List.set_cons_zero, List.set_cons_succ])
        refine wpAnyG_pure 27 (v := ?_) (fun _ => trivial) (by simp only [List.getElem?_toArray, List.getElem?_cons_succ, List.getElem?_cons_zero]; rfl) (by kernel_rfl) (fun _ _ _ _ _ h => h) ⟨(by rfl), (by intro c h; cases h), ?_⟩ hHeld ?_
        rotate_left
        focus (intro wS hSw; (try replace hSw := HSF.out wS hSw); (try dsimp only at hSw); go_simp; (try with_reducible rfl))
        (try simp only [Act.put, List.setIfInBounds_toArray, List.set_cons_zero, List.set_cons_succ])
        refine wpAnyG_take 29 (v := ?_) (fun _ => trivial) (by simp only [List.getElem?_toArray, List.getElem?_cons_succ, List.getElem?_cons_zero]; rfl) (by kernel_rfl) (fun _ _ _ _ _ h => h) ⟨(by rfl), (by intro c h; cases h), ?_⟩ hHeld ?_
        rotate_left
        focus (intro wS hSw; (try replace hSw := HSF.out wS hSw); (try dsimp only at hSw); go_simp; (try with_reducible rfl))
        (try simp only [Act.put, List.setIfInBounds_toArray, List.set_cons_zero, List.set_cons_succ])
        refine wpAnyG_pure 30 (v := ?_) (fun _ => trivial) (by simp only [List.getElem?_toArray, List.getElem?_cons_succ, List.getElem?_cons_zero]; rfl) (by kernel_rfl) (fun _ _ _ _ _ h => h) ⟨(by rfl), (by intro c h; cases h), ?_⟩ hHeld ?_
        rotate_left
        focus (intro wS hSw; (try replace hSw := HSF.out wS hSw); (try dsimp only at hSw); go_simp; (try with_reducible rfl))
        (try simp only [Act.put, List.setIfInBounds_toArray, List.set_cons_zero, List.set_cons_succ])
        refine wpAnyS_ready [28] (by kernel_rfl) (by simp) (AllReadyS.consG (by simp only [List.getElem?_toArray, List.getElem?_cons_succ, List.getElem?_cons_zero]; rfl) (by rfl) (fun K hK => ?_) AllReadyS.nil)
        refine callV (R := fun v w' => ∃ (A5 : Option Addr) (c5 : Nat), v = .slice A5 r2.length c5 ∧ SlR w' w'.heap.size A5 r2 ∧ Below _ _ w') (by intro c h; cases h) (by go_simp; try with_reducible rfl) ((G3.out _ Bg.out).mono (fun e w' ⟨A', c', he, hs, hb⟩ => ⟨_, he, A', c', rfl, hs, hb⟩)) ?_
        rintro v wh ⟨A23, c23, rfl, hs, hBq⟩
        have Bh := hid (Bg.out.trans (hBq.mono Bg.out.size))
        have S3 := hid hs
        refine hK.out _ _ Bh.out ?_
        (try simp only [Act.put, List.setIfInBounds_toArray, List.set_cons_zero, List.set_cons_succ])
        clear hK K hHeld hBq hs
        have hHeld := Bh.out
        refine wpAnyS_ready [31] (by kernel_rfl) (by simp) (AllReadyS.consG (by simp only [List.getElem?_toArray, List.getElem?_cons_succ, List.getElem?_cons_zero]; rfl) (by rfl) (fun K hK => ?_) AllReadyS.nil)
        refine callV (R := fun v w' => ∃ (A5 : Option Addr) (c5 : Nat), v = .slice A5 r2.length c5 ∧ SlR w' w'.heap.size A5 r2 ∧ Below _ _ w') (by intro c h; cases h) (by go_simp; try with_reducible rfl) ((G4.out _ Bh.out).mono (fun e w' ⟨A', c', he, hs, hb⟩ => ⟨_, he, A', c', rfl, hs, hb⟩)) ?_
        rintro v wi ⟨A24, c24, rfl, hs, hBq⟩
        have Bi := hid (Bh.out.trans (hBq.mono Bh.out.size))
        have S4 := hid hs
        replace S3 := hid ((S3.out.below hBq).more hBq.size)
        refine hK.out _ _ Bi.out ?_
        (try simp only [Act.put, List.setIfInBounds_toArray, List.set_cons_zero, List.set_cons_succ])
        clear hK K hHeld hBq hs
        have hHeld := Bi.out
        have HSS := hid (same_any A23 A24 c23 c24 r2 r2 _ hr2 hr2 S3.out S4.out)
        rw [show decide (r2 = r2) = true from decide_eq_true rfl] at HSS
        refine wpAnyS_ready [32] (by kernel_rfl) (by simp) (AllReadyS.consG (by simp only [List.getElem?_toArray, List.getElem?_cons_succ, List.getElem?_cons_zero]; rfl) (by rfl) (fun K hK => ?_) AllReadyS.nil)
        refine callS (by intro c h; cases h) (by go_simp; try with_reducible rfl) HSS.out ?_
        intro wj hBq
        have Bj := hid (Bi.out.trans (hBq.mono Bi.out.size))
        refine hK.out _ _ Bj.out ?_
        (try simp only [Act.put, List.setIfInBounds_toArray, List.set_cons_zero, List.set_cons_succ])
        clear hK K hBq
        clear hHeld
        have hHeld := Bj.out
        clear HSS
        refine wpAnyG_pure 33 (v := ?_) (fun _ => trivial) (by simp only [List.getElem?_toArray, List.getElem?_cons_succ, List.getElem?_cons_zero]; rfl) (by kernel_rfl) (fun _ _ _ _ _ h => h) ⟨(by rfl), (by intro c h; cases h), ?_⟩ hHeld ?_
        rotate_left
        focus (intro wS hSw; (try replace hSw := HSF.out wS hSw); (try dsimp only at hSw); go_simp; (try with_reducible rfl))
        (try simp only [Act.put, List.setIfInBounds_toArray, List.set_cons_zero, List.set_cons_succ])
        refine wpAnyG_pure 34 (v := ?_) (fun _ => trivial) (by simp only [List.getElem?_toArray, List.getElem?_cons_succ, List.getElem?_cons_zero]; rfl) (by kernel_rfl) (fun _ _ _ _ _ h => h) ⟨(by rfl), (by intro c h; cases h), ?_⟩ hHeld ?_
        rotate_left
        focus (intro wS hSw; (try replace hSw := HSF.out wS hSw); (try dsimp only at hSw); go_simp; (try with_reducible rfl))
        (try simp only [Act.put, List.setIfInBounds_toArray, List.set_cons_zero, List.set_cons_succ])
        refine wpAnyS_done (by kernel_rfl) ?_
        clear hHeld HSF
        go_wp2_with fail
        go_meet
        exact ⟨rfl, Bj.out⟩
    case rest =>
      obtain ⟨rfl, hB⟩ := hcut
      have B13 := hid hB
      clear hB HS1 HS2 HT1 HT2 G1 G2 G3 G4 BD hr1 hr2
      have HMK := hid (fun (wq : World) (hq : Below w1.heap.size w1 wq) => mark_any n A c T B cb m wq HLMH.out.2.1 (HM.out wq hq))
      obtain ⟨mk, hmk⟩ : ∃ mk, mk = markOK (n, T) m := ⟨_, rfl⟩
      rw [← hmk] at HMP HMR HMK
      have HMKE := hid hmk
      clear hmk
      go_upto_region 12 with fail
      have BE := hid B13.out.drew
      refine wpIn_wide.1 (wpIn_region_S (n := 0) (fun wq => Below w12.heap.size w12 wq) [] (by kernel_rfl) BE.out (fun hHeld => ?_))
      generalize wc.drew = wd at *
      refine wpAnyG_pure 0 (v := ?_) (fun _ => trivial) (by simp only [List.getElem?_toArray, List.getElem?_cons_succ, List.getElem?_cons_zero]; rfl) (by kernel_rfl) (fun _ _ _ _ _ h => h) ⟨(by rfl), (by intro c h; cases h), ?_⟩ hHeld ?_
      rotate_left
      focus (intro wS hSw; (try replace hSw := HSF.out wS hSw); (try dsimp only at hSw); go_simp; (try with_reducible rfl))
      (try simp only [Act.put, List.setIfInBounds_toArray, List.set_cons_zero, List.set_cons_succ])
      refine wpAnyG_pure 1 (v := ?_) (fun _ => trivial) (by simp only [List.getElem?_toArray, List.getElem?_cons_succ, List.getElem?_cons_zero]; rfl) (by kernel_rfl) (fun _ _ _ _ _ h => h) ⟨(by rfl), (by intro c h; cases h), ?_⟩ hHeld ?_
      rotate_left
      focus (intro wS hSw; (try replace hSw := HSF.out wS hSw); (try dsimp only at hSw); go_simp; (try with_reducible rfl))
      (try simp only [Act.put, List.setIfInBounds_toArray, List.set_cons_zero, List.set_cons_succ])
      refine wpAnyG_pure 2 (v := ?_) (fun _ => trivial) (by simp only [List.getElem?_toArray, List.getElem?_cons_succ, List.getElem?_cons_zero]; rfl) (by kernel_rfl) (fun _ _ _ _ _ h => h) ⟨(by rfl), (by intro c h; cases h), ?_⟩ hHeld ?_
      rotate_left
      focus (intro wS hSw; (try replace hSw := HSF.out wS hSw); (try dsimp only at hSw); go_simp; (try with_reducible rfl))
      (try simp only [Act.put, List.setIfInBounds_toArray, List.set_cons_zero, List.set_cons_succ])
      refine wpAnyG_pure 3 (v := ?_) (fun _ => trivial) (by simp only [List.getElem?_toArray, List.getElem?_cons_succ, List.getElem?_cons_zero]; rfl) (by kernel_rfl) (fun _ _ _ _ _ h => h) ⟨(by rfl), (by intro c h; cases h), ?_⟩ hHeld ?_
      rotate_left
      focus (intro wS hSw; (try replace hSw := HSF.out wS hSw); (try dsimp only at hSw); go_simp; (try with_reducible rfl))
      (try simp only [Act.put, List.setIfInBounds_toArray, List.set_cons_zero, List.set_cons_succ])
      refine wpAnyG_pure 4 (v := ?_) (fun _ => trivial) (by simp only [List.getElem?_toArray, List.getElem?_cons_succ, List.getElem?_cons_zero]; rfl) (by kernel_rfl) (fun _ _ _ _ _ h => h) ⟨(by rfl), (by intro c h; cases h), ?_⟩ hHeld ?_
      rotate_left
      focus (intro wS hSw; (try replace hSw := HSF.out wS hSw); (try dsimp only at hSw); go_simp; (try with_reducible rfl))
      (try simp only [Act.put, List.setIfInBounds_toArray, List.set_cons_zero, List.set_cons_succ])
      refine wpAnyG_pure 5 (v := ?_) (fun _ => trivial) (by simp only [List.getElem?_toArray, List.getElem?_cons_succ, List.getElem?_cons_zero]; rfl) (by kernel_rfl) (fun _ _ _ _ _ h => h) ⟨(by rfl), (by intro c h; cases h), ?_⟩ hHeld ?_
      rotate_left
      focus (intro wS hSw; (try replace hSw := HSF.out wS hSw); (try dsimp only at hSw); go_simp; (try with_reducible rfl))
      (try simp only [Act.put, List.setIfInBounds_toArray, List.set_cons_zero, List.set_cons_succ])
      refine wpAnyG_pure 6 (v := ?_) (fun _ => trivial) (by simp only [List.getElem?_toArray, List.getElem?_cons_succ, List.getElem?_cons_zero]; rfl) (by kernel_rfl) (fun _ _ _ _ _ h => h) ⟨(by rfl), (by intro c h; cases h), ?_⟩ hHeld ?_
      rotate_left
      focus (intro wS hSw; (try replace hSw := HSF.out wS hSw); (try dsimp only at hSw); go_simp; (try with_reducible rfl))
      (try simp only [Act.put, List.setIfInBounds_toArray, List.set_cons_zero, List.set_cons_succ])
      refine wpAnyG_take 7 (v := ?_) (fun _ => trivial) (by simp only [List.getElem?_toArray, List.getElem?_cons_succ, List.getElem?_cons_zero]; rfl) (by kernel_rfl) (fun _ _ _ _ _ h => h) ⟨(by rfl), (by intro c h; cases h), ?_⟩ hHeld ?_
      rotate_left
      focus (intro wS hSw; (try replace hSw := HSF.out wS hSw); (try dsimp only at hSw); go_simp; (try with_reducible rfl))
      (try simp only [Act.put, List.setIfInBounds_toArray, List.set_cons_zero, List.set_cons_succ])
      refine wpAnyG_take 8 (v := ?_) (fun _ => trivial) (by simp only [List.getElem?_toArray, List.getElem?_cons_succ, List.getElem?_cons_zero]; rfl) (by kernel_rfl) (fun _ _ _ _ _ h => h) ⟨(by rfl), (by intro c h; cases h), ?_⟩ hHeld ?_
      rotate_left
      focus (intro wS hSw; (try replace hSw := HSF.out wS hSw); (try dsimp only at hSw); go_simp; (try with_reducible rfl))
      (try simp only [Act.put, List.setIfInBounds_toArray, List.set_cons_zero, List.set_cons_succ])
      refine wpAnyS_ready [9] (by kernel_rfl) (by simp) (AllReadyS.consG (by simp only [List.getElem?_toArray, List.getElem?_cons_succ, List.getElem?_cons_zero]; rfl) (by rfl) (fun K hK => ?_) AllReadyS.nil)
      refine callS (by intro c h; cases h) (by go_simp; try with_reducible rfl) (HSE.out _ BE.out) ?_
      intro wa hBq
      have Ba := hid (BE.out.trans (hBq.mono BE.out.size))
      refine hK.out _ _ Ba.out ?_
      (try simp only [Act.put, List.setIfInBounds_toArray, List.set_cons_zero, List.set_cons_succ])
      clear hK K hBq
      clear hHeld
      have hHeld := Ba.out
      refine wpAnyG_pure 10 (v := ?_) (fun _ => trivial) (by simp only [List.getElem?_toArray, List.getElem?_cons_succ, List.getElem?_cons_zero]; rfl) (by kernel_rfl) (fun _ _ _ _ _ h => h) ⟨(by rfl), (by intro c h; cases h), ?_⟩ hHeld ?_
      rotate_left
      focus (intro wS hSw; (try replace hSw := HSF.out wS hSw); (try dsimp only at hSw); go_simp; (try with_reducible rfl))
      (try simp only [Act.put, List.setIfInBounds_toArray, List.set_cons_zero, List.set_cons_succ])
      refine wpAnyG_pure 11 (v := ?_) (fun _ => trivial) (by simp only [List.getElem?_toArray, List.getElem?_cons_succ, List.getElem?_cons_zero]; rfl) (by kernel_rfl) (fun _ _ _ _ _ h => h) ⟨(by rfl), (by intro c h; cases h), ?_⟩ hHeld ?_
      rotate_left
      focus (intro wS hSw; (try replace hSw := HSF.out wS hSw); (try dsimp only at hSw); go_simp; (try with_reducible rfl))
      (try simp only [Act.put, List.setIfInBounds_toArray, List.set_cons_zero, List.set_cons_succ])
      refine wpAnyG_pure 12 (v := ?_) (fun _ => trivial) (by simp only [List.getElem?_toArray, List.getElem?_cons_succ, List.getElem?_cons_zero]; rfl) (by kernel_rfl) (fun _ _ _ _ _ h => h) ⟨(by rfl), (by intro c h; cases h), ?_⟩ hHeld ?_
      rotate_left
      focus (intro wS hSw; (try replace hSw := HSF.out wS hSw); (try dsimp only at hSw); go_simp; (try with_reducible rfl))
      (try simp only [Act.put, List.setIfInBounds_toArray, List.set_cons_zero, List.set_cons_succ])
      refine wpAnyG_take 13 (v := ?_) (fun _ => trivial) (by simp only [List.getElem?_toArray, List.getElem?_cons_succ, List.getElem?_cons_zero]; rfl) (by kernel_rfl) (fun _ _ _ _ _ h => h) ⟨(by rfl), (by intro c h; cases h), ?_⟩ hHeld ?_
      rotate_left
      focus (intro wS hSw; (try replace hSw := HSF.out wS hSw); (try dsimp only at hSw); go_simp; (try with_reducible rfl))
      (try simp only [Act.put, List.setIfInBounds_toArray, List.set_cons_zero, List.set_cons_succ])
      refine wpAnyG_pure 14 (v := ?_) (fun _ => trivial) (by simp only [List.getElem?_toArray, List.getElem?_cons_succ, List.getElem?_cons_zero]; rfl) (by kernel_rfl) (fun _ _ _ _ _ h => h) ⟨(by rfl), (by intro c h; cases h), ?_⟩ hHeld ?_
      rotate_left
      focus (intro wS hSw; (try replace hSw := HSF.out wS hSw); (try dsimp only at hSw); go_simp; (try with_reducible rfl))
      (try simp only [Act.put, List.setIfInBounds_toArray, List.set_cons_zero, List.set_cons_succ])
      refine wpAnyG_take 16 (v := ?_) (fun _ => trivial) (by simp only [List.getElem?_toArray, List.getElem?_cons_succ, List.getElem?_cons_zero]; rfl) (by kernel_rfl) (fun _ _ _ _ _ h => h) ⟨(by rfl), (by intro c h; cases h), ?_⟩ hHeld ?_
      rotate_left
      focus (intro wS hSw; (try replace hSw := HSF.out wS hSw); (try dsimp only at hSw); go_simp; (try with_reducible rfl))
      (try simp only [Act.put, List.setIfInBounds_toArray, List.set_cons_zero, List.set_cons_succ])
      refine wpAnyG_pure 17 (v := ?_) (fun _ => trivial) (by simp only [List.getElem?_toArray, List.getElem?_cons_succ, List.getElem?_cons_zero]; rfl) (by kernel_rfl) (fun _ _ _ _ _ h => h) ⟨(by rfl), (by intro c h; cases h), ?_⟩ hHeld ?_
      rotate_left
      focus (intro wS hSw; (try replace hSw := HSF.out wS hSw); (try dsimp only at hSw); go_simp; (try with_reducible rfl))
      (try simp only [Act.put, List.setIfInBounds_toArray, List.set_cons_zero, List.set_cons_succ])
      refine wpAnyS_ready [15] (by kernel_rfl) (by simp) (AllReadyS.consG (by simp only [List.getElem?_toArray, List.getElem?_cons_succ, List.getElem?_cons_zero]; rfl) (by rfl) (fun K hK => ?_) AllReadyS.nil)
      refine callS (by intro c h; cases h) (by go_simp; try with_reducible rfl) (HMP.out _ Ba.out) ?_
      intro wb hBq
      have Bb := hid (Ba.out.trans (hBq.mono Ba.out.size))
      refine hK.out _ _ Bb.out ?_
      (try simp only [Act.put, List.setIfInBounds_toArray, List.set_cons_zero, List.set_cons_succ])
      clear hK K hBq
      clear hHeld
      have hHeld := Bb.out
      refine wpAnyS_ready [18] (by kernel_rfl) (by simp) (AllReadyS.consG (by simp only [List.getElem?_toArray, List.getElem?_cons_succ, List.getElem?_cons_zero]; rfl) (by rfl) (fun K hK => ?_) AllReadyS.nil)
      refine callS (by intro c h; cases h) (by go_simp; try with_reducible rfl) (HMR.out _ Bb.out) ?_
      intro wv hBq
      have Bc := hid (Bb.out.trans (hBq.mono Bb.out.size))
      refine hK.out _ _ Bc.out ?_
      (try simp only [Act.put, List.setIfInBounds_toArray, List.set_cons_zero, List.set_cons_succ])
      clear hK K hBq
      clear hHeld
      have hHeld := Bc.out
      refine wpAnyG_pure 19 (v := ?_) (fun _ => trivial) (by simp only [List.getElem?_toArray, List.getElem?_cons_succ, List.getElem?_cons_zero]; rfl) (by kernel_rfl) (fun _ _ _ _ _ h => h) ⟨(by rfl), (by intro c h; cases h), ?_⟩ hHeld ?_
      rotate_left
      focus (intro wS hSw; (try replace hSw := HSF.out wS hSw); (try dsimp only at hSw); go_simp; (try with_reducible rfl))
      (try simp only [Act.put, List.setIfInBounds_toArray, List.set_cons_zero, List.set_cons_succ])
      refine wpAnyG_pure 20 (v := ?_) (fun _ => trivial) (by simp only [List.getElem?_toArray, List.getElem?_cons_succ, List.getElem?_cons_zero]; rfl) (by kernel_rfl) (fun _ _ _ _ _ h => h) ⟨(by rfl), (by intro c h; cases h), ?_⟩ hHeld ?_
      rotate_left
      focus (intro wS hSw; (try replace hSw := HSF.out wS hSw); (try dsimp only at hSw); go_simp; (try with_reducible rfl))
      (try simp only [Act.put, List.setIfInBounds_toArray, List.set_cons_zero, List.set_cons_succ])
      refine wpAnyS_done (by kernel_rfl) ?_
      have B14 := hid (B12.out.trans (Bc.out.mono B12.out.size))
      clear hHeld HSF HSE HMP HMR BE Ba Bb Bc B13 XC HQ B12
      generalize wv = w14 at *
      obtain ⟨L, ec, hL1, hL2, HL3, HL4⟩ := siphons_both n A c T hok
      have HSP := hid (fun (wq : World) (hq : Below w1.heap.size w1 wq) => HL3 wq (HT.out wq hq) (HP.out wq hq))
      have HSR := hid (fun (wq : World) (hq : Below w1.heap.size w1 wq) => HL4 wq (HT.out wq hq))
      have HLL := hid (And.intro hL1 hL2)
      have HOK := hid hok
      unfold RetSp at HSP HSR
      clear hL1 hL2 HL3 HL4 hok
      obtain ⟨y0, y1, z1⟩ := HX.out w14 B14.out
      go_upto_region 14 with fail
      go_cut [157] (fun v wx => v = .bool (decide (n ≤ 8) || decide (14 < n)) ∧ wx = w14)
      case first =>
        as_aux_lemma =>
          by_cases h8 : n ≤ 8
          · go_wp2_with fail
            go_meet
            exact ⟨by simp [h8], rfl⟩
          · have h8b : decide (n ≤ 8) = false := decide_eq_false h8
            go_wp2_with fail
            go_meet
            exact ⟨congrArg Value.bool (by rw [h8b, Bool.false_or]), rfl⟩
      case rest =>
      obtain ⟨rfl, rfl⟩ := hcut
      generalize wc = w14 at *
      clear y0 y1 z1
      generalize (decide (n ≤ 8) || decide (14 < n)) = b8 at *
      go_upto_if 157 with fail
      go_cut [] (fun wx => Below w1.heap.size w1 wx)
      case first =>
        cases b8 with
        | false =>
          as_aux_lemma =>
            go_wp2_with fail
            go_meet
            exact B14.out
        | true =>
        as_aux_lemma =>
          obtain ⟨y0, y1, z1⟩ := HX.out w14 B14.out
          go_wp2_with fail
          refine (HSP.out w14 B14.out).mono ?_
          rintro e w15 ⟨A15, c15, rfl, hq, hB⟩
          have B15 := hid (B14.out.trans (hB.mono B14.out.size))
          have S15 := hid hq
          clear hB hq y0 y1 z1
          obtain ⟨y0, y1, z1⟩ := HX.out w15 B15.out
          go_wp2_with fail
          refine (HSR.out w15 B15.out).mono ?_
          rintro e w16 ⟨A16, c16, rfl, hq, hB⟩
          have B16 := hid (B15.out.trans (hB.mono B15.out.size))
          replace S15 := hid ((S15.out.below hB).more hB.size)
          have S16 := hid hq
          clear hB hq y0 y1 z1 B15
          go_upto_region 19 with fail
          go_wp2_with fail
          go_loopw [25] (fun i wr => ∃ k : Nat, k ≤ L.length ∧ i = .int .i64 k ∧ Below w16.heap.size w16 wr) (fun i _ => L.length - (intOf i).toNat)
          case atStart => exact ⟨0, by omega, rfl, Below.refl _ _⟩
          case round =>
            obtain ⟨k, hk, rfl, hB⟩ := hrel
            have HBk := hid hB
            clear hB
            have hll := HLL.out.1
            unfold maxLen at hll
            by_cases hlt : k < L.length
            case neg =>
              obtain rfl : k = L.length := by omega
              go_wp2_with fail
              go_meet
              exact B16.out.trans (HBk.out.mono B16.out.size)
            case pos =>
            have hltI : (k : Int) < L.length := by omega
            obtain ⟨b5, o5, A', c', rfl, hb5, hc5, -, -, hs5⟩ := ((S15.out.below HBk.out).more HBk.out.size).list hlt
            obtain ⟨b6, o6, A'', c'', rfl, hb6, hc6, -, -, hs6⟩ := ((S16.out.below HBk.out).more HBk.out.size).list hlt
            have hlk := HLL.out.2 _ (List.getElem_mem hlt)
            have HSM := hid (fun (wq : World) (hq : Below wr.heap.size wr wq) => show Calls Tryz.prog 16 #[.slice A' L[k].length c', .slice A'' L[k].length c''] wq (fun e w' => e = .returned (.bool true) ∧ Below wq.heap.size wq w') from by
              have := same_any A' A'' c' c'' L[k] L[k] wq hlk hlk ((hs5.below hq).more hq.size) ((hs6.below hq).more hq.size)
              rwa [show decide (L[k] = L[k]) = true from decide_eq_true rfl] at this)
            clear hs5 hs6 hlk
            generalize L[k].length = lk at *
            have HSF := hid (fun (wq : World) (hq : Below wr.heap.size wr wq) => And.intro ((bcell hq _ _ hb5).trans hc5) ((bcell hq _ _ hb6).trans hc6))
            have BD := hid ((Below.refl wr.heap.size wr).drew)
            clear hb5 hb6 hc5 hc6
            go_upto_region 22 with fail
            refine wpIn_wide.1 (wpIn_region_S (n := 0) (fun wq => Below wr.heap.size wr wq) [] (by kernel_rfl) BD.out (fun hHeld => ?_))
            generalize wr.drew = wd at *
            refine wpAnyG_pure 0 (v := ?_) (fun _ => trivial) (by simp only [List.getElem?_toArray, List.getElem?_cons_succ, List.getElem?_cons_zero]; rfl) (by kernel_rfl) (fun _ _ _ _ _ h => h) ⟨(by rfl), (by intro c h; cases h), ?_⟩ hHeld ?_
            rotate_left
            focus (intro wS hSw; (try replace hSw := HSF.out wS hSw); (try dsimp only at hSw); go_simp; (try with_reducible rfl))
            (try simp only [Act.put, List.setIfInBounds_toArray, List.set_cons_zero, List.set_cons_succ])
            refine wpAnyG_pure 1 (v := ?_) (fun _ => trivial) (by simp only [List.getElem?_toArray, List.getElem?_cons_succ, List.getElem?_cons_zero]; rfl) (by kernel_rfl) (fun _ _ _ _ _ h => h) ⟨(by rfl), (by intro c h; cases h), ?_⟩ hHeld ?_
            rotate_left
            focus (intro wS hSw; (try replace hSw := HSF.out wS hSw); (try dsimp only at hSw); go_simp; (try with_reducible rfl))
            (try simp only [Act.put, List.setIfInBounds_toArray, List.set_cons_zero, List.set_cons_succ])
            refine wpAnyG_pure 2 (v := ?_) (fun _ => trivial) (by simp only [List.getElem?_toArray, List.getElem?_cons_succ, List.getElem?_cons_zero]; rfl) (by kernel_rfl) (fun _ _ _ _ _ h => h) ⟨(by rfl), (by intro c h; cases h), ?_⟩ hHeld ?_
            rotate_left
            focus (intro wS hSw; (try replace hSw := HSF.out wS hSw); (try dsimp only at hSw); go_simp; (try with_reducible rfl))
            (try simp only [Act.put, List.setIfInBounds_toArray, List.set_cons_zero, List.set_cons_succ])
            refine wpAnyG_take 3 (v := ?_) (fun _ => trivial) (by simp only [List.getElem?_toArray, List.getElem?_cons_succ, List.getElem?_cons_zero]; rfl) (by kernel_rfl) (fun _ _ _ _ _ h => h) ⟨(by rfl), (by intro c h; cases h), ?_⟩ hHeld ?_
            rotate_left
            focus (intro wS hSw; (try replace hSw := HSF.out wS hSw); (try dsimp only at hSw); go_simp; (try with_reducible rfl))
            (try simp only [Act.put, List.setIfInBounds_toArray, List.set_cons_zero, List.set_cons_succ])
            refine wpAnyG_pure 4 (v := ?_) (fun _ => trivial) (by simp only [List.getElem?_toArray, List.getElem?_cons_succ, List.getElem?_cons_zero]; rfl) (by kernel_rfl) (fun _ _ _ _ _ h => h) ⟨(by rfl), (by intro c h; cases h), ?_⟩ hHeld ?_
            rotate_left
            focus (intro wS hSw; (try replace hSw := HSF.out wS hSw); (try dsimp only at hSw); go_simp; (try with_reducible rfl))
            (try simp only [Act.put, List.setIfInBounds_toArray, List.set_cons_zero, List.set_cons_succ])
            refine wpAnyG_pure 5 (v := ?_) (fun _ => trivial) (by simp only [List.getElem?_toArray, List.getElem?_cons_succ, List.getElem?_cons_zero]; rfl) (by kernel_rfl) (fun _ _ _ _ _ h => h) ⟨(by rfl), (by intro c h; cases h), ?_⟩ hHeld ?_
            rotate_left
            focus (intro wS hSw; (try replace hSw := HSF.out wS hSw); (try dsimp only at hSw); go_simp; (try with_reducible rfl))
            (try simp only [Act.put, List.setIfInBounds_toArray, List.set_cons_zero, List.set_cons_succ])
            refine wpAnyG_pure 6 (v := ?_) (fun _ => trivial) (by simp only [List.getElem?_toArray, List.getElem?_cons_succ, List.getElem?_cons_zero]; rfl) (by kernel_rfl) (fun _ _ _ _ _ h => h) ⟨(by rfl), (by intro c h; cases h), ?_⟩ hHeld ?_
            rotate_left
            focus (intro wS hSw; (try replace hSw := HSF.out wS hSw); (try dsimp only at hSw); go_simp; (try with_reducible rfl))
            (try simp only [Act.put, List.setIfInBounds_toArray, List.set_cons_zero, List.set_cons_succ])
            refine wpAnyG_take 7 (v := ?_) (fun _ => trivial) (by simp only [List.getElem?_toArray, List.getElem?_cons_succ, List.getElem?_cons_zero]; rfl) (by kernel_rfl) (fun _ _ _ _ _ h => h) ⟨(by rfl), (by intro c h; cases h), ?_⟩ hHeld ?_
            rotate_left
            focus (intro wS hSw; (try replace hSw := HSF.out wS hSw); (try dsimp only at hSw); go_simp; (try with_reducible rfl))
            (try simp only [Act.put, List.setIfInBounds_toArray, List.set_cons_zero, List.set_cons_succ])
            refine wpAnyS_ready [8] (by kernel_rfl) (by simp) (AllReadyS.consG (by simp only [List.getElem?_toArray, List.getElem?_cons_succ, List.getElem?_cons_zero]; rfl) (by rfl) (fun K hK => ?_) AllReadyS.nil)
            refine callS (by intro c h; cases h) (by go_simp; try with_reducible rfl) (HSM.out _ BD.out) ?_
            intro wa hBq
            have Ba := hid (BD.out.trans (hBq.mono BD.out.size))
            refine hK.out _ _ Ba.out ?_
            (try simp only [Act.put, List.setIfInBounds_toArray, List.set_cons_zero, List.set_cons_succ])
            clear hK K hBq
            clear hHeld
            have hHeld := Ba.out
            refine wpAnyG_pure 9 (v := ?_) (fun _ => trivial) (by simp only [List.getElem?_toArray, List.getElem?_cons_succ, List.getElem?_cons_zero]; rfl) (by kernel_rfl) (fun _ _ _ _ _ h => h) ⟨(by rfl), (by intro c h; cases h), ?_⟩ hHeld ?_
            rotate_left
            focus (intro wS hSw; (try replace hSw := HSF.out wS hSw); (try dsimp only at hSw); go_simp; (try with_reducible rfl))
            (try simp only [Act.put, List.setIfInBounds_toArray, List.set_cons_zero, List.set_cons_succ])
            refine wpAnyS_done (by kernel_rfl) ?_
            clear hHeld HSF HSM
            go_wp2_with fail
            go_roundw
            case rel => exact ⟨k + 1, by omega, by go_num, HBk.out.trans (Ba.out.mono HBk.out.size)⟩
            case measure => simp [intOf]; omega
      case rest =>
      have B17 := hid (show Below w1.heap.size w1 wc from hcut)
      clear hcut B14 HSP HSR HLL
      generalize wc = w17 at *
      have HWO := hid (fun (wq : World) (hq : Below w1.heap.size w1 wq) => weights_any n A c T.length D cd ws wq HLMH.out.2.2.2 (HW.out wq hq))
      have HIP := hid (fun (hwk : wtOK n ws = true) (wq : World) (hq : Below w1.heap.size w1 wq) => show Calls Tryz.prog 24 #[.agg #[.int .i64 n, .slice A T.length c], .slice D ws.length cd] wq (fun e w' => e = .returned (.bool (invN T ws)) ∧ Below wq.heap.size wq w') from by
        obtain ⟨N, hN⟩ : ∃ N : Nat, n = N := ⟨n.toNat, by have := (wt_parts hwk).1; omega⟩
        rw [hN] at hwk ⊢
        exact inv_any N A c T D cd ws wq HLMH.out.1 (HT.out wq hq) (HW.out wq hq) (hN ▸ HOK.out) hwk)
      have HIR := hid (fun (hwk : wtOK n ws = true) (wq : World) (hq : Below w1.heap.size w1 wq) => show Calls Tryz.prog 25 #[.agg #[.int .i64 n, .slice A T.length c], .slice D ws.length cd] wq (fun e w' => e = .returned (.bool (invN T ws)) ∧ Below wq.heap.size wq w') from by
        obtain ⟨N, hN⟩ : ∃ N : Nat, n = N := ⟨n.toNat, by have := (wt_parts hwk).1; omega⟩
        rw [hN] at hwk ⊢
        exact inv_r N A c T D cd ws wq HLMH.out.1 (HT.out wq hq) (HW.out wq hq) (hN ▸ HOK.out) hwk)
      obtain ⟨wk, hwk⟩ : ∃ wk, wk = wtOK n ws := ⟨_, rfl⟩
      rw [← hwk] at HWO HIP HIR
      have HWKE := hid hwk
      clear hwk
      have HSF := hid (fun (wq : World) (hq : Below w1.heap.size w1 wq) => HX.out wq hq)
      have BD := hid B17.out.drew
      go_upto_region 24 with fail
      go_cut [205] (fun v wx => v = .bool false ∧ Below w1.heap.size w1 wx)
      case first =>
        refine wpIn_wide.1 (wpIn_region_S (n := 0) (fun wq => Below w1.heap.size w1 wq) [] (by kernel_rfl) BD.out (fun hHeld => ?_))
        generalize w17.drew = wd at *
        refine wpAnyG_take 0 (v := ?_) (fun _ => trivial) (by simp only [List.getElem?_toArray, List.getElem?_cons_succ, List.getElem?_cons_zero]; rfl) (by kernel_rfl) (fun _ _ _ _ _ h => h) ⟨(by rfl), (by intro c h; cases h), ?_⟩ hHeld ?_
        rotate_left
        focus (intro wS hSw; (try replace hSw := HSF.out wS hSw); (try dsimp only at hSw); go_simp; (try with_reducible rfl))
        (try simp only [Act.put, List.setIfInBounds_toArray, List.set_cons_zero, List.set_cons_succ])
        refine wpAnyG_pure 1 (v := ?_) (fun _ => trivial) (by simp only [List.getElem?_toArray, List.getElem?_cons_succ, List.getElem?_cons_zero]; rfl) (by kernel_rfl) (fun _ _ _ _ _ h => h) ⟨(by rfl), (by intro c h; cases h), ?_⟩ hHeld ?_
        rotate_left
        focus (intro wS hSw; (try replace hSw := HSF.out wS hSw); (try dsimp only at hSw); go_simp; (try with_reducible rfl))
        (try simp only [Act.put, List.setIfInBounds_toArray, List.set_cons_zero, List.set_cons_succ])
        refine wpAnyS_ready [2] (by kernel_rfl) (by simp) (AllReadyS.consG (by simp only [List.getElem?_toArray, List.getElem?_cons_succ, List.getElem?_cons_zero]; rfl) (by rfl) (fun K hK => ?_) AllReadyS.nil)
        refine callS (by intro c h; cases h) (by go_simp; try with_reducible rfl) (HWO.out _ BD.out) ?_
        intro wa hBq
        have Ba := hid (BD.out.trans (hBq.mono BD.out.size))
        refine hK.out _ _ Ba.out ?_
        (try simp only [Act.put, List.setIfInBounds_toArray, List.set_cons_zero, List.set_cons_succ])
        clear hK K hBq
        clear hHeld
        have hHeld := Ba.out
        cases wk with
        | false =>
          as_aux_lemma =>
            refine wpAnyG_pure 3 (v := ?_) (fun _ => trivial) (by simp only [List.getElem?_toArray, List.getElem?_cons_succ, List.getElem?_cons_zero]; rfl) (by kernel_rfl) (fun _ _ _ _ _ h => h) ⟨(by rfl), (by intro c h; cases h), ?_⟩ hHeld ?_
            rotate_left
            focus (intro wS hSw; (try replace hSw := HSF.out wS hSw); (try dsimp only at hSw); go_simp; (try with_reducible rfl))
            (try simp only [Act.put, List.setIfInBounds_toArray, List.set_cons_zero, List.set_cons_succ])
            refine wpAnyG_skip 4 (fun _ => trivial) (by simp only [List.getElem?_toArray, List.getElem?_cons_succ, List.getElem?_cons_zero]; rfl) (by kernel_rfl) (fun _ _ _ _ _ h => h) (by rfl) hHeld ?_
            (try simp only [Act.put, List.setIfInBounds_toArray, List.set_cons_zero, List.set_cons_succ])
            refine wpAnyG_skip 5 (fun _ => trivial) (by simp only [List.getElem?_toArray, List.getElem?_cons_succ, List.getElem?_cons_zero]; rfl) (by kernel_rfl) (fun _ _ _ _ _ h => h) (by rfl) hHeld ?_
            (try simp only [Act.put, List.setIfInBounds_toArray, List.set_cons_zero, List.set_cons_succ])
            refine wpAnyG_skip 6 (fun _ => trivial) (by simp only [List.getElem?_toArray, List.getElem?_cons_succ, List.getElem?_cons_zero]; rfl) (by kernel_rfl) (fun _ _ _ _ _ h => h) (by rfl) hHeld ?_
            (try simp only [Act.put, List.setIfInBounds_toArray, List.set_cons_zero, List.set_cons_succ])
            refine wpAnyG_skip 7 (fun _ => trivial) (by simp only [List.getElem?_toArray, List.getElem?_cons_succ, List.getElem?_cons_zero]; rfl) (by kernel_rfl) (fun _ _ _ _ _ h => h) (by rfl) hHeld ?_
            (try simp only [Act.put, List.setIfInBounds_toArray, List.set_cons_zero, List.set_cons_succ])
            refine wpAnyG_skip 8 (fun _ => trivial) (by simp only [List.getElem?_toArray, List.getElem?_cons_succ, List.getElem?_cons_zero]; rfl) (by kernel_rfl) (fun _ _ _ _ _ h => h) (by rfl) hHeld ?_
            (try simp only [Act.put, List.setIfInBounds_toArray, List.set_cons_zero, List.set_cons_succ])
            refine wpAnyG_skip 9 (fun _ => trivial) (by simp only [List.getElem?_toArray, List.getElem?_cons_succ, List.getElem?_cons_zero]; rfl) (by kernel_rfl) (fun _ _ _ _ _ h => h) (by rfl) hHeld ?_
            (try simp only [Act.put, List.setIfInBounds_toArray, List.set_cons_zero, List.set_cons_succ])
            refine wpAnyG_skip 10 (fun _ => trivial) (by simp only [List.getElem?_toArray, List.getElem?_cons_succ, List.getElem?_cons_zero]; rfl) (by kernel_rfl) (fun _ _ _ _ _ h => h) (by rfl) hHeld ?_
            (try simp only [Act.put, List.setIfInBounds_toArray, List.set_cons_zero, List.set_cons_succ])
            refine wpAnyG_pure 11 (v := ?_) (fun _ => trivial) (by simp only [List.getElem?_toArray, List.getElem?_cons_succ, List.getElem?_cons_zero]; rfl) (by kernel_rfl) (fun _ _ _ _ _ h => h) ⟨(by rfl), (by intro c h; cases h), ?_⟩ hHeld ?_
            rotate_left
            focus (intro wS hSw; (try replace hSw := HSF.out wS hSw); (try dsimp only at hSw); go_simp; (try with_reducible rfl))
            (try simp only [Act.put, List.setIfInBounds_toArray, List.set_cons_zero, List.set_cons_succ])
            refine wpAnyS_done (by kernel_rfl) ?_
            clear hHeld HSF
            go_wp2_with fail
            go_meet
            exact ⟨rfl, Ba.out⟩
        | true =>
        as_aux_lemma =>
          have HIP1 := hid (HIP.out rfl)
          have HIR1 := hid (HIR.out rfl)
          generalize invN T ws = iv at *
          refine wpAnyG_pure 3 (v := ?_) (fun _ => trivial) (by simp only [List.getElem?_toArray, List.getElem?_cons_succ, List.getElem?_cons_zero]; rfl) (by kernel_rfl) (fun _ _ _ _ _ h => h) ⟨(by rfl), (by intro c h; cases h), ?_⟩ hHeld ?_
          rotate_left
          focus (intro wS hSw; (try replace hSw := HSF.out wS hSw); (try dsimp only at hSw); go_simp; (try with_reducible rfl))
          (try simp only [Act.put, List.setIfInBounds_toArray, List.set_cons_zero, List.set_cons_succ])
          refine wpAnyG_take 4 (v := ?_) (fun _ => trivial) (by simp only [List.getElem?_toArray, List.getElem?_cons_succ, List.getElem?_cons_zero]; rfl) (by kernel_rfl) (fun _ _ _ _ _ h => h) ⟨(by rfl), (by intro c h; cases h), ?_⟩ hHeld ?_
          rotate_left
          focus (intro wS hSw; (try replace hSw := HSF.out wS hSw); (try dsimp only at hSw); go_simp; (try with_reducible rfl))
          (try simp only [Act.put, List.setIfInBounds_toArray, List.set_cons_zero, List.set_cons_succ])
          refine wpAnyG_pure 5 (v := ?_) (fun _ => trivial) (by simp only [List.getElem?_toArray, List.getElem?_cons_succ, List.getElem?_cons_zero]; rfl) (by kernel_rfl) (fun _ _ _ _ _ h => h) ⟨(by rfl), (by intro c h; cases h), ?_⟩ hHeld ?_
          rotate_left
          focus (intro wS hSw; (try replace hSw := HSF.out wS hSw); (try dsimp only at hSw); go_simp; (try with_reducible rfl))
          (try simp only [Act.put, List.setIfInBounds_toArray, List.set_cons_zero, List.set_cons_succ])
          refine wpAnyG_take 7 (v := ?_) (fun _ => trivial) (by simp only [List.getElem?_toArray, List.getElem?_cons_succ, List.getElem?_cons_zero]; rfl) (by kernel_rfl) (fun _ _ _ _ _ h => h) ⟨(by rfl), (by intro c h; cases h), ?_⟩ hHeld ?_
          rotate_left
          focus (intro wS hSw; (try replace hSw := HSF.out wS hSw); (try dsimp only at hSw); go_simp; (try with_reducible rfl))
          (try simp only [Act.put, List.setIfInBounds_toArray, List.set_cons_zero, List.set_cons_succ])
          refine wpAnyG_pure 8 (v := ?_) (fun _ => trivial) (by simp only [List.getElem?_toArray, List.getElem?_cons_succ, List.getElem?_cons_zero]; rfl) (by kernel_rfl) (fun _ _ _ _ _ h => h) ⟨(by rfl), (by intro c h; cases h), ?_⟩ hHeld ?_
          rotate_left
          focus (intro wS hSw; (try replace hSw := HSF.out wS hSw); (try dsimp only at hSw); go_simp; (try with_reducible rfl))
          (try simp only [Act.put, List.setIfInBounds_toArray, List.set_cons_zero, List.set_cons_succ])
          refine wpAnyS_ready [6] (by kernel_rfl) (by simp) (AllReadyS.consG (by simp only [List.getElem?_toArray, List.getElem?_cons_succ, List.getElem?_cons_zero]; rfl) (by rfl) (fun K hK => ?_) AllReadyS.nil)
          refine callS (by intro c h; cases h) (by go_simp; try with_reducible rfl) (HIP1.out _ Ba.out) ?_
          intro wb hBq
          have Bb := hid (Ba.out.trans (hBq.mono Ba.out.size))
          refine hK.out _ _ Bb.out ?_
          (try simp only [Act.put, List.setIfInBounds_toArray, List.set_cons_zero, List.set_cons_succ])
          clear hK K hBq
          clear hHeld
          have hHeld := Bb.out
          refine wpAnyS_ready [9] (by kernel_rfl) (by simp) (AllReadyS.consG (by simp only [List.getElem?_toArray, List.getElem?_cons_succ, List.getElem?_cons_zero]; rfl) (by rfl) (fun K hK => ?_) AllReadyS.nil)
          refine callS (by intro c h; cases h) (by go_simp; try with_reducible rfl) (HIR1.out _ Bb.out) ?_
          intro wc9 hBq
          have Bc := hid (Bb.out.trans (hBq.mono Bb.out.size))
          refine hK.out _ _ Bc.out ?_
          (try simp only [Act.put, List.setIfInBounds_toArray, List.set_cons_zero, List.set_cons_succ])
          clear hK K hBq
          clear hHeld
          have hHeld := Bc.out
          refine wpAnyG_pure 10 (v := ?_) (fun _ => trivial) (by simp only [List.getElem?_toArray, List.getElem?_cons_succ, List.getElem?_cons_zero]; rfl) (by kernel_rfl) (fun _ _ _ _ _ h => h) ⟨(by rfl), (by intro c h; cases h), ?_⟩ hHeld ?_
          rotate_left
          focus (intro wS hSw; (try replace hSw := HSF.out wS hSw); (try dsimp only at hSw); go_simp; (try with_reducible rfl))
          (try simp only [Act.put, List.setIfInBounds_toArray, List.set_cons_zero, List.set_cons_succ])
          refine wpAnyG_pure 11 (v := ?_) (fun _ => trivial) (by simp only [List.getElem?_toArray, List.getElem?_cons_succ, List.getElem?_cons_zero]; rfl) (by kernel_rfl) (fun _ _ _ _ _ h => h) ⟨(by rfl), (by intro c h; cases h), ?_⟩ hHeld ?_
          rotate_left
          focus (intro wS hSw; (try replace hSw := HSF.out wS hSw); (try dsimp only at hSw); go_simp; (try with_reducible rfl))
          (try simp only [Act.put, List.setIfInBounds_toArray, List.set_cons_zero, List.set_cons_succ])
          refine wpAnyS_done (by kernel_rfl) ?_
          clear hHeld HSF
          go_wp2_with fail
          go_meet
          exact ⟨by simp, Bc.out⟩
      case rest =>
      obtain ⟨rfl, hB⟩ := hcut
      have B18 := hid hB
      clear hB BD HIP HIR
      generalize wc = w18 at *
      obtain ⟨y0, y1, z1⟩ := HX.out w18 B18.out
      cases mk with
      | false =>
        as_aux_lemma =>
          go_wp2_with fail
          refine (HMK.out w18 B18.out).mono ?_
          rintro e w19 ⟨rfl, hB⟩
          have B19 := hid (B18.out.trans (hB.mono B18.out.size))
          clear hB
          go_wp2_with fail
          go_ret
          exact ⟨rfl, B1.out.trans (B19.out.mono B1.out.size)⟩
      | true =>
      have hmk := HMKE.out.symm
      have hfl := Nat.le_trans (fire_len n T m t) HLMH.out.2.1
      have HF1 := hid (fun (wq : World) (hq : Below w1.heap.size w1 wq) => fire_any n A c T B cb m t wq HLMH.out.1 (HT.out wq hq) (HM.out wq hq) HOK.out hmk)
      have HF2 := hid (fun (wq : World) (hq : Below w1.heap.size w1 wq) => fire_r n A c T B cb m t wq HLMH.out.1 (HT.out wq hq) (HM.out wq hq) HOK.out hmk)
      have hnm : n = m.length := by
        have h := hmk
        simp only [markOK, Bool.and_eq_true, decide_eq_true_eq] at h
        exact h.1.symm
      have hn64 : n ≤ 64 := by
        have h := HOK.out
        simp only [netOK, Bool.and_eq_true, decide_eq_true_eq] at h
        omega
      have htl : T.length ≤ 5000 := by have := HNB.out.len; omega
      obtain ⟨rv, hrv, HV1, HV2⟩ := live_both n A c T B cb m htl HLMH.out.2.1 hnm HOK.out
      have HL1 := hid (fun (wq : World) (hq : Below w1.heap.size w1 wq) => HV1 wq (HT.out wq hq) (HM.out wq hq))
      have HL2 := hid (fun (wq : World) (hq : Below w1.heap.size w1 wq) => HV2 wq (HT.out wq hq) (HM.out wq hq))
      have HE1 := hid (fun (wq : World) (hq : Below w1.heap.size w1 wq) => enabled_any n A c T B cb m t wq HLMH.out.1 (HT.out wq hq) HLMH.out.2.1 (HM.out wq hq) hnm HOK.out)
      have HE2 := hid (fun (wq : World) (hq : Below w1.heap.size w1 wq) => enabled_r n A c T B cb m t wq HLMH.out.1 (HT.out wq hq) HLMH.out.2.1 (HM.out wq hq) hnm HOK.out)
      have hmr : ∀ x ∈ m, 0 ≤ x ∧ x ≤ 1099511627776 := by
        have h := hmk
        simp only [markOK, Bool.and_eq_true, decide_eq_true_eq, List.all_eq_true] at h
        exact h.2
      have HG1 := hid (fun (hw : wk = true) (wq : World) (hq : Below w1.heap.size w1 wq) => weight_any B cb m D cd ws wq (HM.out wq hq) (HW.out wq hq) (by omega) (by have := (wt_parts (HWKE.out.symm.trans hw)).1; omega) hmr (wt_parts (HWKE.out.symm.trans hw)).2)
      have HG2 := hid (fun (hw : wk = true) (wq : World) (hq : Below w1.heap.size w1 wq) => weight_r B cb m D cd ws wq (HM.out wq hq) (HW.out wq hq) (by omega) (by have := (wt_parts (HWKE.out.symm.trans hw)).1; omega) hmr (wt_parts (HWKE.out.symm.trans hw)).2)
      unfold RetFire at HF1 HF2
      unfold RetLs at HL1 HL2
      generalize weightN m ws = wg at *
      generalize enN T m t = eb at *
      generalize fireN n T m t = fr at *
      obtain ⟨fl, fe⟩ := fr
      simp only at HF1 HF2 hfl
      have HFL := hid (And.intro hfl hrv)
      clear hmk hfl HV1 HV2 hnm hn64 htl hmr hrv
      go_wp2_with fail
      refine (HMK.out w18 B18.out).mono ?_
      rintro e w19 ⟨rfl, hB⟩
      have B19 := hid (B18.out.trans (hB.mono B18.out.size))
      clear hB y0 y1 z1 B18
      obtain ⟨y0, y1, z1⟩ := HX.out w19 B19.out
      go_wp2_with fail
      refine (HF1.out w19 B19.out).mono ?_
      rintro e w20 ⟨A20, c20, rfl, hq, hB⟩
      have B20 := hid (B19.out.trans (hB.mono B19.out.size))
      have S20 := hid hq
      clear hB hq y0 y1 z1 B19
      obtain ⟨y0, y1, z1⟩ := HX.out w20 B20.out
      go_wp2_with fail
      refine (HF2.out w20 B20.out).mono ?_
      rintro e w21 ⟨A21, c21, rfl, hq, hB⟩
      have B21 := hid (B20.out.trans (hB.mono B20.out.size))
      replace S20 := hid ((S20.out.below hB).more hB.size)
      have S21 := hid hq
      clear hB hq y0 y1 z1 B20
      obtain ⟨y0, y1, z1⟩ := HX.out w21 B21.out
      go_upto_region 30 with fail
      go_cut [236] (fun v wx => v = .bool false ∧ Below w21.heap.size w21 wx)
      case first =>
        cases wk with
        | false =>
          as_aux_lemma =>
            go_wp2_with fail
            refine (HWO.out w21 B21.out).mono ?_
            rintro e w22 ⟨rfl, hB⟩
            have B22 := hid hB
            clear hB
            go_wp2_with fail
            go_meet
            exact ⟨rfl, B22.out⟩
        | true =>
        as_aux_lemma =>
          have HH1 := hid (HG1.out rfl)
          have HH2 := hid (HG2.out rfl)
          go_wp2_with fail
          refine (HWO.out w21 B21.out).mono ?_
          rintro e w22 ⟨rfl, hB⟩
          have B22 := hid hB
          have B23 := hid (B21.out.trans (hB.mono B21.out.size))
          clear hB
          go_wp2_with fail
          refine (HH1.out w22 B23.out).mono ?_
          rintro e w23 ⟨rfl, rfl⟩
          go_wp2_with fail
          refine (HH2.out _ B23.out).mono ?_
          rintro e w24 ⟨rfl, hB⟩
          have B24 := hid (B22.out.trans (hB.mono B22.out.size))
          clear hB
          go_wp2_with fail
          go_meet
          exact ⟨by simp, B24.out⟩
      case rest =>
      obtain ⟨rfl, hB⟩ := hcut
      have B25 := hid (B21.out.trans (hB.mono B21.out.size))
      replace S20 := hid ((S20.out.below hB).more hB.size)
      replace S21 := hid ((S21.out.below hB).more hB.size)
      clear hB y0 y1 z1 HG1 HG2 HWO HMK HF1 HF2 B21
      generalize wc = w25 at *
      have HQ := hid (fun (wq : World) (hq : Below w25.heap.size w25 wq) => B25.out.trans (hq.mono B25.out.size))
      have HSF := hid (fun (wq : World) (hq : Below w25.heap.size w25 wq) => HX.out wq (HQ.out wq hq))
      have BD := hid ((Below.refl w25.heap.size w25).drew)
      have HSS := hid (fun (wq : World) (hq : Below w25.heap.size w25 wq) => show Calls Tryz.prog 16 #[.slice A20 fl.length c20, .slice A21 fl.length c21] wq (fun e w' => e = .returned (.bool true) ∧ Below wq.heap.size wq w') from by
        have := same_any A20 A21 c20 c21 fl fl wq HFL.out.1 HFL.out.1 ((S20.out.below hq).more hq.size) ((S21.out.below hq).more hq.size)
        rwa [show decide (fl = fl) = true from decide_eq_true rfl] at this)
      have hfe1 : decide (fe = fe) = true := decide_eq_true rfl
      have hfe2 : (fe == fe) = true := by simp
      go_upto_region 32 with fail
      refine wpIn_wide.1 (wpIn_region_S (n := 0) (fun wq => Below w25.heap.size w25 wq) [] (by kernel_rfl) BD.out (fun hHeld => ?_))
      generalize w25.drew = wd at *
      refine wpAnyG_pure 0 (v := ?_) (fun _ => trivial) (by simp only [List.getElem?_toArray, List.getElem?_cons_succ, List.getElem?_cons_zero]; rfl) (by kernel_rfl) (fun _ _ _ _ _ h => h) ⟨(by rfl), (by intro c h; cases h), ?_⟩ hHeld ?_
      rotate_left
      focus (intro wS hSw; (try replace hSw := HSF.out wS hSw); (try dsimp only at hSw); go_simp; (try with_reducible rfl))
      (try simp only [Act.put, List.setIfInBounds_toArray, List.set_cons_zero, List.set_cons_succ])
      refine wpAnyG_pure 1 (v := ?_) (fun _ => trivial) (by simp only [List.getElem?_toArray, List.getElem?_cons_succ, List.getElem?_cons_zero]; rfl) (by kernel_rfl) (fun _ _ _ _ _ h => h) ⟨(by rfl), (by intro c h; cases h), ?_⟩ hHeld ?_
      rotate_left
      focus (intro wS hSw; (try replace hSw := HSF.out wS hSw); (try dsimp only at hSw); go_simp; (try with_reducible rfl))
      (try simp only [Act.put, List.setIfInBounds_toArray, List.set_cons_zero, List.set_cons_succ])
      refine wpAnyG_pure 2 (v := ?_) (fun _ => trivial) (by simp only [List.getElem?_toArray, List.getElem?_cons_succ, List.getElem?_cons_zero]; rfl) (by kernel_rfl) (fun _ _ _ _ _ h => h) ⟨(by rfl), (by intro c h; cases h), ?_⟩ hHeld ?_
      rotate_left
      focus (intro wS hSw; (try replace hSw := HSF.out wS hSw); (try dsimp only at hSw); go_simp; (try with_reducible rfl))
      (try simp only [Act.put, List.setIfInBounds_toArray, List.set_cons_zero, List.set_cons_succ])
      refine wpAnyG_pure 3 (v := ?_) (fun _ => trivial) (by simp only [List.getElem?_toArray, List.getElem?_cons_succ, List.getElem?_cons_zero]; rfl) (by kernel_rfl) (fun _ _ _ _ _ h => h) ⟨(by rfl), (by intro c h; cases h), ?_⟩ hHeld ?_
      rotate_left
      focus (intro wS hSw; (try replace hSw := HSF.out wS hSw); (try dsimp only at hSw); go_simp; (try with_reducible rfl))
      (try simp only [Act.put, List.setIfInBounds_toArray, List.set_cons_zero, List.set_cons_succ])
      refine wpAnyG_pure 4 (v := ?_) (fun _ => trivial) (by simp only [List.getElem?_toArray, List.getElem?_cons_succ, List.getElem?_cons_zero]; rfl) (by kernel_rfl) (fun _ _ _ _ _ h => h) ⟨(by rfl), (by intro c h; cases h), ?_⟩ hHeld ?_
      rotate_left
      focus (intro wS hSw; (try replace hSw := HSF.out wS hSw); (try dsimp only at hSw); go_simp; (try with_reducible rfl))
      (try simp only [Act.put, List.setIfInBounds_toArray, List.set_cons_zero, List.set_cons_succ])
      refine wpAnyG_pure 5 (v := ?_) (fun _ => trivial) (by simp only [List.getElem?_toArray, List.getElem?_cons_succ, List.getElem?_cons_zero]; rfl) (by kernel_rfl) (fun _ _ _ _ _ h => h) ⟨(by rfl), (by intro c h; cases h), ?_⟩ hHeld ?_
      rotate_left
      focus (intro wS hSw; (try replace hSw := HSF.out wS hSw); (try dsimp only at hSw); go_simp; (try with_reducible rfl))
      (try simp only [Act.put, List.setIfInBounds_toArray, List.set_cons_zero, List.set_cons_succ])
      refine wpAnyG_pure 6 (v := ?_) (fun _ => trivial) (by simp only [List.getElem?_toArray, List.getElem?_cons_succ, List.getElem?_cons_zero]; rfl) (by kernel_rfl) (fun _ _ _ _ _ h => h) ⟨(by rfl), (by intro c h; cases h), ?_⟩ hHeld ?_
      rotate_left
      focus (intro wS hSw; (try replace hSw := HSF.out wS hSw); (try dsimp only at hSw); go_simp; (try with_reducible rfl))
      (try simp only [Act.put, List.setIfInBounds_toArray, List.set_cons_zero, List.set_cons_succ])
      refine wpAnyG_pure 7 (v := ?_) (fun _ => trivial) (by simp only [List.getElem?_toArray, List.getElem?_cons_succ, List.getElem?_cons_zero]; rfl) (by kernel_rfl) (fun _ _ _ _ _ h => h) ⟨(by rfl), (by intro c h; cases h), ?_⟩ hHeld ?_
      rotate_left
      focus (intro wS hSw; (try replace hSw := HSF.out wS hSw); (try dsimp only at hSw); go_simp; (try with_reducible rfl))
      (try simp only [Act.put, List.setIfInBounds_toArray, List.set_cons_zero, List.set_cons_succ])
      refine wpAnyG_pure 8 (v := ?_) (fun _ => trivial) (by simp only [List.getElem?_toArray, List.getElem?_cons_succ, List.getElem?_cons_zero]; rfl) (by kernel_rfl) (fun _ _ _ _ _ h => h) ⟨(by rfl), (by intro c h; cases h), ?_⟩ hHeld ?_
      rotate_left
      focus (intro wS hSw; (try replace hSw := HSF.out wS hSw); (try dsimp only at hSw); go_simp; (try with_reducible rfl))
      (try simp only [Act.put, List.setIfInBounds_toArray, List.set_cons_zero, List.set_cons_succ])
      refine wpAnyS_ready [9] (by kernel_rfl) (by simp) (AllReadyS.consG (by simp only [List.getElem?_toArray, List.getElem?_cons_succ, List.getElem?_cons_zero]; rfl) (by rfl) (fun K hK => ?_) AllReadyS.nil)
      refine callS (by intro c h; cases h) (by go_simp; try with_reducible rfl) (HSS.out _ BD.out) ?_
      intro wa hBq
      have Ba := hid (BD.out.trans (hBq.mono BD.out.size))
      refine hK.out _ _ Ba.out ?_
      (try simp only [Act.put, List.setIfInBounds_toArray, List.set_cons_zero, List.set_cons_succ])
      clear hK K hBq
      clear hHeld HSS hfe1 hfe2
      have hHeld := Ba.out
      refine wpAnyG_pure 10 (v := ?_) (fun _ => trivial) (by simp only [List.getElem?_toArray, List.getElem?_cons_succ, List.getElem?_cons_zero]; rfl) (by kernel_rfl) (fun _ _ _ _ _ h => h) ⟨(by rfl), (by intro c h; cases h), ?_⟩ hHeld ?_
      rotate_left
      focus (intro wS hSw; (try replace hSw := HSF.out wS hSw); (try dsimp only at hSw); go_simp; (try with_reducible rfl))
      (try simp only [Act.put, List.setIfInBounds_toArray, List.set_cons_zero, List.set_cons_succ])
      refine wpAnyG_pure 11 (v := ?_) (fun _ => trivial) (by simp only [List.getElem?_toArray, List.getElem?_cons_succ, List.getElem?_cons_zero]; rfl) (by kernel_rfl) (fun _ _ _ _ _ h => h) ⟨(by rfl), (by intro c h; cases h), ?_⟩ hHeld ?_
      rotate_left
      focus (intro wS hSw; (try replace hSw := HSF.out wS hSw); (try dsimp only at hSw); go_simp; (try with_reducible rfl))
      (try simp only [Act.put, List.setIfInBounds_toArray, List.set_cons_zero, List.set_cons_succ])
      refine wpAnyG_take 12 (v := ?_) (fun _ => trivial) (by simp only [List.getElem?_toArray, List.getElem?_cons_succ, List.getElem?_cons_zero]; rfl) (by kernel_rfl) (fun _ _ _ _ _ h => h) ⟨(by rfl), (by intro c h; cases h), ?_⟩ hHeld ?_
      rotate_left
      focus (intro wS hSw; (try replace hSw := HSF.out wS hSw); (try dsimp only at hSw); go_simp; (try with_reducible rfl))
      (try simp only [Act.put, List.setIfInBounds_toArray, List.set_cons_zero, List.set_cons_succ])
      refine wpAnyG_pure 13 (v := ?_) (fun _ => trivial) (by simp only [List.getElem?_toArray, List.getElem?_cons_succ, List.getElem?_cons_zero]; rfl) (by kernel_rfl) (fun _ _ _ _ _ h => h) ⟨(by rfl), (by intro c h; cases h), ?_⟩ hHeld ?_
      rotate_left
      focus (intro wS hSw; (try replace hSw := HSF.out wS hSw); (try dsimp only at hSw); go_simp; (try with_reducible rfl))
      (try simp only [Act.put, List.setIfInBounds_toArray, List.set_cons_zero, List.set_cons_succ])
      refine wpAnyG_take 15 (v := ?_) (fun _ => trivial) (by simp only [List.getElem?_toArray, List.getElem?_cons_succ, List.getElem?_cons_zero]; rfl) (by kernel_rfl) (fun _ _ _ _ _ h => h) ⟨(by rfl), (by intro c h; cases h), ?_⟩ hHeld ?_
      rotate_left
      focus (intro wS hSw; (try replace hSw := HSF.out wS hSw); (try dsimp only at hSw); go_simp; (try with_reducible rfl))
      (try simp only [Act.put, List.setIfInBounds_toArray, List.set_cons_zero, List.set_cons_succ])
      refine wpAnyG_pure 16 (v := ?_) (fun _ => trivial) (by simp only [List.getElem?_toArray, List.getElem?_cons_succ, List.getElem?_cons_zero]; rfl) (by kernel_rfl) (fun _ _ _ _ _ h => h) ⟨(by rfl), (by intro c h; cases h), ?_⟩ hHeld ?_
      rotate_left
      focus (intro wS hSw; (try replace hSw := HSF.out wS hSw); (try dsimp only at hSw); go_simp; (try with_reducible rfl))
      (try simp only [Act.put, List.setIfInBounds_toArray, List.set_cons_zero, List.set_cons_succ])
      refine wpAnyS_ready [14] (by kernel_rfl) (by simp) (AllReadyS.consG (by simp only [List.getElem?_toArray, List.getElem?_cons_succ, List.getElem?_cons_zero]; rfl) (by rfl) (fun K hK => ?_) AllReadyS.nil)
      refine callV (R := fun v w' => ∃ (A5 : Option Addr) (c5 : Nat), v = .slice A5 rv.length c5 ∧ SlR w' w'.heap.size A5 rv ∧ Below _ _ w') (by intro c h; cases h) (by go_simp; try with_reducible rfl) ((HL1.out _ (HQ.out _ Ba.out)).mono (fun e w' ⟨A', c', he, hs, hb⟩ => ⟨_, he, A', c', rfl, hs, hb⟩)) ?_
      rintro v wb ⟨A31, c31, rfl, hs, hBq⟩
      have Bb := hid (Ba.out.trans (hBq.mono Ba.out.size))
      have S1 := hid hs
      refine hK.out _ _ Bb.out ?_
      (try simp only [Act.put, List.setIfInBounds_toArray, List.set_cons_zero, List.set_cons_succ])
      clear hK K hHeld hBq hs
      have hHeld := Bb.out
      refine wpAnyS_ready [17] (by kernel_rfl) (by simp) (AllReadyS.consG (by simp only [List.getElem?_toArray, List.getElem?_cons_succ, List.getElem?_cons_zero]; rfl) (by rfl) (fun K hK => ?_) AllReadyS.nil)
      refine callV (R := fun v w' => ∃ (A5 : Option Addr) (c5 : Nat), v = .slice A5 rv.length c5 ∧ SlR w' w'.heap.size A5 rv ∧ Below _ _ w') (by intro c h; cases h) (by go_simp; try with_reducible rfl) ((HL2.out _ (HQ.out _ Bb.out)).mono (fun e w' ⟨A', c', he, hs, hb⟩ => ⟨_, he, A', c', rfl, hs, hb⟩)) ?_
      rintro v wcx ⟨A32, c32, rfl, hs, hBq⟩
      have Bc := hid (Bb.out.trans (hBq.mono Bb.out.size))
      have S2 := hid hs
      replace S1 := hid ((S1.out.below hBq).more hBq.size)
      refine hK.out _ _ Bc.out ?_
      (try simp only [Act.put, List.setIfInBounds_toArray, List.set_cons_zero, List.set_cons_succ])
      clear hK K hHeld hBq hs
      have hHeld := Bc.out
      have HSS := hid (same_any A31 A32 c31 c32 rv rv _ HFL.out.2 HFL.out.2 S1.out S2.out)
      rw [show decide (rv = rv) = true from decide_eq_true rfl] at HSS
      refine wpAnyS_ready [18] (by kernel_rfl) (by simp) (AllReadyS.consG (by simp only [List.getElem?_toArray, List.getElem?_cons_succ, List.getElem?_cons_zero]; rfl) (by rfl) (fun K hK => ?_) AllReadyS.nil)
      refine callS (by intro c h; cases h) (by go_simp; try with_reducible rfl) HSS.out ?_
      intro wdx hBq
      have Bdx := hid (Bc.out.trans (hBq.mono Bc.out.size))
      refine hK.out _ _ Bdx.out ?_
      (try simp only [Act.put, List.setIfInBounds_toArray, List.set_cons_zero, List.set_cons_succ])
      clear hK K hBq
      clear hHeld
      have hHeld := Bdx.out
      clear HSS
      refine wpAnyG_pure 19 (v := ?_) (fun _ => trivial) (by simp only [List.getElem?_toArray, List.getElem?_cons_succ, List.getElem?_cons_zero]; rfl) (by kernel_rfl) (fun _ _ _ _ _ h => h) ⟨(by rfl), (by intro c h; cases h), ?_⟩ hHeld ?_
      rotate_left
      focus (intro wS hSw; (try replace hSw := HSF.out wS hSw); (try dsimp only at hSw); go_simp; (try with_reducible rfl))
      (try simp only [Act.put, List.setIfInBounds_toArray, List.set_cons_zero, List.set_cons_succ])
      refine wpAnyG_pure 20 (v := ?_) (fun _ => trivial) (by simp only [List.getElem?_toArray, List.getElem?_cons_succ, List.getElem?_cons_zero]; rfl) (by kernel_rfl) (fun _ _ _ _ _ h => h) ⟨(by rfl), (by intro c h; cases h), ?_⟩ hHeld ?_
      rotate_left
      focus (intro wS hSw; (try replace hSw := HSF.out wS hSw); (try dsimp only at hSw); go_simp; (try with_reducible rfl))
      (try simp only [Act.put, List.setIfInBounds_toArray, List.set_cons_zero, List.set_cons_succ])
      refine wpAnyG_take 21 (v := ?_) (fun _ => trivial) (by simp only [List.getElem?_toArray, List.getElem?_cons_succ, List.getElem?_cons_zero]; rfl) (by kernel_rfl) (fun _ _ _ _ _ h => h) ⟨(by rfl), (by intro c h; cases h), ?_⟩ hHeld ?_
      rotate_left
      focus (intro wS hSw; (try replace hSw := HSF.out wS hSw); (try dsimp only at hSw); go_simp; (try with_reducible rfl))
      (try simp only [Act.put, List.setIfInBounds_toArray, List.set_cons_zero, List.set_cons_succ])
      refine wpAnyG_pure 22 (v := ?_) (fun _ => trivial) (by simp only [List.getElem?_toArray, List.getElem?_cons_succ, List.getElem?_cons_zero]; rfl) (by kernel_rfl) (fun _ _ _ _ _ h => h) ⟨(by rfl), (by intro c h; cases h), ?_⟩ hHeld ?_
      rotate_left
      focus (intro wS hSw; (try replace hSw := HSF.out wS hSw); (try dsimp only at hSw); go_simp; (try with_reducible rfl))
      (try simp only [Act.put, List.setIfInBounds_toArray, List.set_cons_zero, List.set_cons_succ])
      refine wpAnyG_pure 23 (v := ?_) (fun _ => trivial) (by simp only [List.getElem?_toArray, List.getElem?_cons_succ, List.getElem?_cons_zero]; rfl) (by kernel_rfl) (fun _ _ _ _ _ h => h) ⟨(by rfl), (by intro c h; cases h), ?_⟩ hHeld ?_
      rotate_left
      focus (intro wS hSw; (try replace hSw := HSF.out wS hSw); (try dsimp only at hSw); go_simp; (try with_reducible rfl))
      (try simp only [Act.put, List.setIfInBounds_toArray, List.set_cons_zero, List.set_cons_succ])
      refine wpAnyG_take 25 (v := ?_) (fun _ => trivial) (by simp only [List.getElem?_toArray, List.getElem?_cons_succ, List.getElem?_cons_zero]; rfl) (by kernel_rfl) (fun _ _ _ _ _ h => h) ⟨(by rfl), (by intro c h; cases h), ?_⟩ hHeld ?_
      rotate_left
      focus (intro wS hSw; (try replace hSw := HSF.out wS hSw); (try dsimp only at hSw); go_simp; (try with_reducible rfl))
      (try simp only [Act.put, List.setIfInBounds_toArray, List.set_cons_zero, List.set_cons_succ])
      refine wpAnyG_pure 26 (v := ?_) (fun _ => trivial) (by simp only [List.getElem?_toArray, List.getElem?_cons_succ, List.getElem?_cons_zero]; rfl) (by kernel_rfl) (fun _ _ _ _ _ h => h) ⟨(by rfl), (by intro c h; cases h), ?_⟩ hHeld ?_
      rotate_left
      focus (intro wS hSw; (try replace hSw := HSF.out wS hSw); (try dsimp only at hSw); go_simp; (try with_reducible rfl))
      (try simp only [Act.put, List.setIfInBounds_toArray, List.set_cons_zero, List.set_cons_succ])
      refine wpAnyG_pure 27 (v := ?_) (fun _ => trivial) (by simp only [List.getElem?_toArray, List.getElem?_cons_succ, List.getElem?_cons_zero]; rfl) (by kernel_rfl) (fun _ _ _ _ _ h => h) ⟨(by rfl), (by intro c h; cases h), ?_⟩ hHeld ?_
      rotate_left
      focus (intro wS hSw; (try replace hSw := HSF.out wS hSw); (try dsimp only at hSw); go_simp; (try with_reducible rfl))
      (try simp only [Act.put, List.setIfInBounds_toArray, List.set_cons_zero, List.set_cons_succ])
      refine wpAnyS_ready [24] (by kernel_rfl) (by simp) (AllReadyS.consG (by simp only [List.getElem?_toArray, List.getElem?_cons_succ, List.getElem?_cons_zero]; rfl) (by rfl) (fun K hK => ?_) AllReadyS.nil)
      refine callS (by intro c h; cases h) (by go_simp; try with_reducible rfl) (HE1.out _ (HQ.out _ Bdx.out)) ?_
      intro we hBq
      have Be := hid (Bdx.out.trans (hBq.mono Bdx.out.size))
      refine hK.out _ _ Be.out ?_
      (try simp only [Act.put, List.setIfInBounds_toArray, List.set_cons_zero, List.set_cons_succ])
      clear hK K hBq
      clear hHeld
      have hHeld := Be.out
      refine wpAnyS_ready [28] (by kernel_rfl) (by simp) (AllReadyS.consG (by simp only [List.getElem?_toArray, List.getElem?_cons_succ, List.getElem?_cons_zero]; rfl) (by rfl) (fun K hK => ?_) AllReadyS.nil)
      refine callS (by intro c h; cases h) (by go_simp; try with_reducible rfl) (HE2.out _ (HQ.out _ Be.out)) ?_
      intro wf hBq
      have Bf := hid (Be.out.trans (hBq.mono Be.out.size))
      refine hK.out _ _ Bf.out ?_
      (try simp only [Act.put, List.setIfInBounds_toArray, List.set_cons_zero, List.set_cons_succ])
      clear hK K hBq
      clear hHeld
      have hHeld := Bf.out
      refine wpAnyG_pure 29 (v := ?_) (fun _ => trivial) (by simp only [List.getElem?_toArray, List.getElem?_cons_succ, List.getElem?_cons_zero]; rfl) (by kernel_rfl) (fun _ _ _ _ _ h => h) ⟨(by rfl), (by intro c h; cases h), ?_⟩ hHeld ?_
      rotate_left
      focus (intro wS hSw; (try replace hSw := HSF.out wS hSw); (try dsimp only at hSw); go_simp; (try with_reducible rfl))
      (try simp only [Act.put, List.setIfInBounds_toArray, List.set_cons_zero, List.set_cons_succ])
      refine wpAnyG_pure 30 (v := ?_) (fun _ => trivial) (by simp only [List.getElem?_toArray, List.getElem?_cons_succ, List.getElem?_cons_zero]; rfl) (by kernel_rfl) (fun _ _ _ _ _ h => h) ⟨(by rfl), (by intro c h; cases h), ?_⟩ hHeld ?_
      rotate_left
      focus (intro wS hSw; (try replace hSw := HSF.out wS hSw); (try dsimp only at hSw); go_simp; (try with_reducible rfl))
      (try simp only [Act.put, List.setIfInBounds_toArray, List.set_cons_zero, List.set_cons_succ])
      refine wpAnyG_pure 31 (v := ?_) (fun _ => trivial) (by simp only [List.getElem?_toArray, List.getElem?_cons_succ, List.getElem?_cons_zero]; rfl) (by kernel_rfl) (fun _ _ _ _ _ h => h) ⟨(by rfl), (by intro c h; cases h), ?_⟩ hHeld ?_
      rotate_left
      focus (intro wS hSw; (try replace hSw := HSF.out wS hSw); (try dsimp only at hSw); go_simp; (try with_reducible rfl))
      (try simp only [Act.put, List.setIfInBounds_toArray, List.set_cons_zero, List.set_cons_succ])
      refine wpAnyS_done (by kernel_rfl) ?_
      have B33 := hid (HQ.out _ Bf.out)
      clear hHeld HSF
      go_wp2_with fail
      go_ret
      exact ⟨by simp, B1.out.trans (B33.out.mono B1.out.size)⟩
end Go.Proofs.YteljfpcmpdpehaaGreatDoor
