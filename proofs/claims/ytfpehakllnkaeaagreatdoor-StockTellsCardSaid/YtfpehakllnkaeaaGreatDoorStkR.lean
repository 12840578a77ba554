
/- Stock: SamePlans, Few, one, given. -/
import Derived.Test.YtfpehakllnkaeaaGreatDoorStkQ
set_option linter.unusedSimpArgs false
set_option linter.unusedVariables false
namespace Go.Proofs.YtfpehakllnkaeaaGreatDoor
open Go.RowKit Go.IntWalk

set_option maxRecDepth 100000 in
set_option maxHeartbeats 2000000 in
theorem sameplans_any (A B : Option Addr) (c d : Nat) (l m : List (List Tk)) (w : World) (hl : l.length ≤ maxLen) (hm : m.length ≤ maxLen) (h1 : SlR w w.heap.size A l) (h2 : SlR w w.heap.size B m) :
    Calls Tryz.prog 28 #[.slice A l.length c, .slice B m.length d] w fun e w' => e = .returned (.bool (decide (l = m))) ∧ Below w.heap.size w w' := by
  unfold maxLen at hl hm
  by_cases hne : l.length = m.length
  case neg =>
    have hne' : ¬ (l.length : Int) = m.length := by omega
    have hr := hid (show decide (l = m) = false by have : l ≠ m := (fun e => hne (by rw [e])); simp [this])
    clear hne
    go_enter Tryz.func28, Tryz.ntmps28
    go_wp2_with fail
    go_ret
    exact ⟨ret_bool hr.out.symm, Below.refl _ _⟩
  have HN := hid hne
  have hne' : (l.length : Int) = m.length := by omega
  clear hne
  go_enter Tryz.func28, Tryz.ntmps28
  go_wp2_with fail
  go_loopw [5] (fun i wr => ∃ k : Nat, k ≤ m.length ∧ i = .int .i64 k ∧ Below w.heap.size w wr ∧ l.take k = m.take k) (fun i _ => m.length - (intOf i).toNat)
  case atStart => exact ⟨0, by omega, rfl, Below.refl _ _, by simp⟩
  case round =>
    obtain ⟨k, hk, rfl, hB, ht⟩ := hrel
    have HB := hid hB
    have HT := hid ht
    by_cases hlt : k < m.length
    · have hlt' : (k : Int) < m.length := by omega
      have hkl : k < l.length := by have := HN.out; omega
      obtain ⟨b1, o1, A1, d1, rfl, hb1, c1, u1, v1, s1⟩ := h1.list hkl
      obtain ⟨b2, o2, A2, d2, rfl, hb2, c2, u2, v2, s2⟩ := h2.list hlt
      replace c1 := (bcell hB b1 _ hb1).trans c1
      replace c2 := (bcell hB b2 _ hb2).trans c2
      have z1 : b1 < wr.heap.size := by have := hB.size; omega
      have z2 : b2 < wr.heap.size := by have := hB.size; omega
      have HE := hid (fun (e : l[k] = m[k]) => take_snoc_eq hkl hlt ht e)
      have HNE := hid (fun (e : l[k] ≠ m[k]) => show decide (l = m) = false from by simp [take_snoc_ne hkl hlt e])
      clear hB ht
      generalize l[k] = x at *
      generalize m[k] = y at *
      have HC := hid (fun W (hW : Below w.heap.size w W) => sametakes_any A1 A2 d1 d2 x y W (by omega) (by omega) ((s1.below hW).more hW.size) ((s2.below hW).more hW.size))
      have HCd := hid (HC.out _ HB.out.drew)
      clear HC s1 s2 u1 v1 u2 v2 h1 h2
      go_upto_region 6 with fail
      refine wpIn_wide.1 (wpIn_region_S (n := 0) (fun wq => wq.cell? ⟨b1, o1 + k, none⟩ = some (.slice A1 x.length d1) ∧ wq.cell? ⟨b2, o2 + k, none⟩ = some (.slice A2 y.length d2)) [8] (by kernel_rfl) ⟨c1, c2⟩ (fun hHeld => ?_))
      refine wpAnyS_pure 0 (v := ?_) (fun _ => trivial) (by simp only [List.getElem?_toArray, List.getElem?_cons_succ, List.getElem?_cons_zero]; rfl) (by kernel_rfl) (fun _ _ _ _ _ h => h) ⟨rfl, (by intro c h; cases h), ?_⟩ hHeld ?_
      rotate_left
      focus (intro wS hSw; (try replace hSw := HSF.out wS hSw); (try dsimp only at hSw); go_simp; (try with_reducible rfl))
      (try simp only [Act.put, List.setIfInBounds_toArray, List.set_cons_zero, List.set_cons_succ])
      refine wpAnyS_pure 1 (v := ?_) (fun _ => trivial) (by simp only [List.getElem?_toArray, List.getElem?_cons_succ, List.getElem?_cons_zero]; rfl) (by kernel_rfl) (fun _ _ _ _ _ h => h) ⟨rfl, (by intro c h; cases h), ?_⟩ hHeld ?_
      rotate_left
      focus (intro wS hSw; (try replace hSw := HSF.out wS hSw); (try dsimp only at hSw); go_simp; (try with_reducible rfl))
      (try simp only [Act.put, List.setIfInBounds_toArray, List.set_cons_zero, List.set_cons_succ])
      refine wpAnyS_pure 2 (v := ?_) (fun _ => trivial) (by simp only [List.getElem?_toArray, List.getElem?_cons_succ, List.getElem?_cons_zero]; rfl) (by kernel_rfl) (fun _ _ _ _ _ h => h) ⟨rfl, (by intro c h; cases h), ?_⟩ hHeld ?_
      rotate_left
      focus (intro wS hSw; (try replace hSw := HSF.out wS hSw); (try dsimp only at hSw); go_simp; (try with_reducible rfl))
      (try simp only [Act.put, List.setIfInBounds_toArray, List.set_cons_zero, List.set_cons_succ])
      refine wpAnyS_take 3 (v := ?_) (fun _ => trivial) (by simp only [List.getElem?_toArray, List.getElem?_cons_succ, List.getElem?_cons_zero]; rfl) (by kernel_rfl) (fun _ _ _ _ _ h => h) ⟨rfl, (by intro c h; cases h), ?_⟩ hHeld ?_
      rotate_left
      focus (intro wS hSw; (try replace hSw := HSF.out wS hSw); (try dsimp only at hSw); go_simp; (try with_reducible rfl))
      (try simp only [Act.put, List.setIfInBounds_toArray, List.set_cons_zero, List.set_cons_succ])
      refine wpAnyS_pure 4 (v := ?_) (fun _ => trivial) (by simp only [List.getElem?_toArray, List.getElem?_cons_succ, List.getElem?_cons_zero]; rfl) (by kernel_rfl) (fun _ _ _ _ _ h => h) ⟨rfl, (by intro c h; cases h), ?_⟩ hHeld ?_
      rotate_left
      focus (intro wS hSw; (try replace hSw := HSF.out wS hSw); (try dsimp only at hSw); go_simp; (try with_reducible rfl))
      (try simp only [Act.put, List.setIfInBounds_toArray, List.set_cons_zero, List.set_cons_succ])
      refine wpAnyS_pure 5 (v := ?_) (fun _ => trivial) (by simp only [List.getElem?_toArray, List.getElem?_cons_succ, List.getElem?_cons_zero]; rfl) (by kernel_rfl) (fun _ _ _ _ _ h => h) ⟨rfl, (by intro c h; cases h), ?_⟩ hHeld ?_
      rotate_left
      focus (intro wS hSw; (try replace hSw := HSF.out wS hSw); (try dsimp only at hSw); go_simp; (try with_reducible rfl))
      (try simp only [Act.put, List.setIfInBounds_toArray, List.set_cons_zero, List.set_cons_succ])
      refine wpAnyS_pure 6 (v := ?_) (fun _ => trivial) (by simp only [List.getElem?_toArray, List.getElem?_cons_succ, List.getElem?_cons_zero]; rfl) (by kernel_rfl) (fun _ _ _ _ _ h => h) ⟨rfl, (by intro c h; cases h), ?_⟩ hHeld ?_
      rotate_left
      focus (intro wS hSw; (try replace hSw := HSF.out wS hSw); (try dsimp only at hSw); go_simp; (try with_reducible rfl))
      (try simp only [Act.put, List.setIfInBounds_toArray, List.set_cons_zero, List.set_cons_succ])
      refine wpAnyS_take 7 (v := ?_) (fun _ => trivial) (by simp only [List.getElem?_toArray, List.getElem?_cons_succ, List.getElem?_cons_zero]; rfl) (by kernel_rfl) (fun _ _ _ _ _ h => h) ⟨rfl, (by intro c h; cases h), ?_⟩ hHeld ?_
      rotate_left
      focus (intro wS hSw; (try replace hSw := HSF.out wS hSw); (try dsimp only at hSw); go_simp; (try with_reducible rfl))
      (try simp only [Act.put, List.setIfInBounds_toArray, List.set_cons_zero, List.set_cons_succ])
      refine wpAnyS_ready [8] (by kernel_rfl) (by simp) (AllReadyS.consL (by simp only [List.getElem?_toArray, List.getElem?_cons_succ, List.getElem?_cons_zero]; rfl) rfl (by kernel_rfl) (fun K hK => ?_) AllReadyS.nil)
      refine callS (by intro c h; cases h) (by go_simp; try with_reducible rfl) HCd.out ?_
      intro w5 hB5
      have B5 := hid (HB.out.drew.trans (hB5.mono HB.out.drew.size))
      refine hK.out _ _ ?_
      (try simp only [Act.put, List.setIfInBounds_toArray, List.set_cons_zero, List.set_cons_succ])
      clear hK K hHeld hB5 HCd c1 c2 z1 z2
      refine wpAnyS_pureL 9 (v := ?_) (fun _ => trivial) (by simp only [List.getElem?_toArray, List.getElem?_cons_succ, List.getElem?_cons_zero]; rfl) (by kernel_rfl) (by kernel_rfl) (fun _ _ _ _ _ h => h) ⟨rfl, (by intro c h; cases h), ?_⟩ ?_
      rotate_left
      focus (intro wS hSw; (try replace hSw := HSF.out wS hSw); (try dsimp only at hSw); go_simp; (try with_reducible rfl))
      (try simp only [Act.put, List.setIfInBounds_toArray, List.set_cons_zero, List.set_cons_succ])
      refine wpAnyS_done (by kernel_rfl) ?_
      by_cases hxy : x = y
      · have HT2 := hid (HE.out hxy)
        rw [decide_eq_true hxy]
        clear HE HNE hxy
        as_aux_lemma =>
          go_wp2_with fail
          go_roundw
          case rel => exact ⟨k + 1, by omega, by go_num, B5.out, HT2.out⟩
          case measure => simp [intOf]; omega
      · have hf := hid (HNE.out hxy)
        rw [decide_eq_false hxy]
        clear HE HNE hxy
        as_aux_lemma =>
          go_wp2_with fail
          go_ret
          exact ⟨ret_bool hf.out.symm, B5.out⟩
    · obtain rfl : k = m.length := by omega
      have hr := hid (show decide (l = m) = true by
        have h5 := HN.out
        have h6 := ht
        rw [List.take_length, ← h5, List.take_length] at h6
        simp [h6])
      clear hB ht
      go_wp2_with fail
      go_ret
      exact ⟨ret_bool hr.out.symm, HB.out⟩
/-! ### Few -/
def fewK (x : Kd) : Bool := decide (x.1.size ≤ 30)
def fewS (ks : List Kd) (lots : List Lt) (bs : List Bx) (n : Int) : Bool := ks.all fewK && decide ((ks.length : Int) ≤ n) && decide ((lots.length : Int) ≤ n) && decide ((bs.length : Int) ≤ n)
set_option maxRecDepth 100000 in
set_option maxHeartbeats 2000000 in
theorem few_any (A B C : Option Addr) (c d e0 : Nat) (ks : List Kd) (lots : List Lt) (bs : List Bx) (n : Int) (hn : 0 ≤ n ∧ n ≤ 1000) (w : World) (hk : ks.length ≤ maxLen) (hl : lots.length ≤ maxLen) (hb : bs.length ≤ maxLen) (h : SlR w w.heap.size A ks) :
    Calls Tryz.prog 5 #[.slice A ks.length c, .slice B lots.length d, .slice C bs.length e0, .int .i64 n] w fun e w' => e = .returned (.bool (fewS ks lots bs n)) ∧ Below w.heap.size w w' := by
  unfold maxLen at hk hl hb
  have H := hid h
  clear h
  have HF := hid (show fewS ks lots bs n = (ks.all fewK && decide ((ks.length : Int) ≤ n) && decide ((lots.length : Int) ≤ n) && decide ((bs.length : Int) ≤ n)) from rfl)
  go_enter Tryz.func5, Tryz.ntmps5
  go_wp2_with fail
  go_loopw [9] (fun i wr => ∃ p : Nat, p ≤ ks.length ∧ i = .int .i64 p ∧ w = wr ∧ (ks.take p).all fewK = true) (fun i _ => ks.length - (intOf i).toNat)
  case atStart => exact ⟨0, by omega, rfl, rfl, by simp⟩
  case round =>
    obtain ⟨p, hp, rfl, rfl, ha⟩ := hrel
    have HA := hid ha
    clear ha
    by_cases hlt : p < ks.length
    · have hlt' : (p : Int) < ks.length := by omega
      by_cases hpn : (p : Int) ≤ n
      · obtain ⟨b, off, rfl, hbz, c0, _, hsz, -⟩ := H.out.kd hlt
        have hst := hid (show (ks.take (p + 1)).all fewK = ((ks.take p).all fewK && fewK ks[p]) by rw [List.take_add_one, List.getElem?_eq_getElem hlt, List.all_append]; simp)
        have hfl := hid (show fewK ks[p] = false → fewS ks lots bs n = false from fun hf => by
          have : ks.all fewK = false := by
            cases hx : ks.all fewK with
            | false => rfl
            | true => rw [List.all_eq_true] at hx; rw [hx _ (List.getElem_mem hlt)] at hf; cases hf
          rw [HF.out, this]; rfl)
        generalize ks[p] = x at *
        obtain ⟨nm, wt⟩ := x
        simp only at c0 hsz
        unfold maxLen at hsz
        by_cases h30 : (30 : Int) < nm.size
        · have hf := hid (hfl.out (by simp [fewK]; omega))
          as_aux_lemma =>
            go_wp2_with fail
            go_ret
            exact ⟨ret_bool hf.out.symm, Below.refl _ _⟩
        · have hf := hid (show (ks.take (p + 1)).all fewK = true by rw [hst.out, HA.out]; simp [fewK]; omega)
          as_aux_lemma =>
            go_wp2_with fail
            go_roundw
            case rel => exact ⟨p + 1, by omega, by go_num, by first | trivial | rfl, hf.out⟩
            case measure => simp [intOf]; omega
      · have hf := hid (show fewS ks lots bs n = false by rw [HF.out]; have : ¬ (ks.length : Int) ≤ n := (by omega); simp [this])
        have h5 : ¬ (ks.length : Int) ≤ n := by omega
        as_aux_lemma =>
          go_wp2_with fail
          go_ret
          exact ⟨ret_bool hf.out.symm, Below.refl _ _⟩
    · obtain rfl : p = ks.length := by omega
      have hall := hid (show ks.all fewK = true by have := HA.out; rwa [List.take_length] at this)
      by_cases h5 : (ks.length : Int) ≤ n
      · by_cases h6 : (lots.length : Int) ≤ n
        · by_cases h7 : (bs.length : Int) ≤ n
          · have hf := hid (show fewS ks lots bs n = true by rw [HF.out, hall.out]; simp [h5, h6, h7])
            as_aux_lemma =>
              go_wp2_with fail
              go_ret
              exact ⟨ret_bool hf.out.symm, Below.refl _ _⟩
          · have hf := hid (show fewS ks lots bs n = false by rw [HF.out]; simp [h7])
            as_aux_lemma =>
              go_wp2_with fail
              go_ret
              exact ⟨ret_bool hf.out.symm, Below.refl _ _⟩
        · have hf := hid (show fewS ks lots bs n = false by rw [HF.out]; simp [h6])
          as_aux_lemma =>
            go_wp2_with fail
            go_ret
            exact ⟨ret_bool hf.out.symm, Below.refl _ _⟩
      · have hf := hid (show fewS ks lots bs n = false by rw [HF.out]; simp [h5])
        as_aux_lemma =>
          go_wp2_with fail
          go_ret
          exact ⟨ret_bool hf.out.symm, Below.refl _ _⟩
theorem slr_b3 {w : World} {g : Nat} {t : TypeId} {l : List Bx} (hb : Blk w g t (b3 l).toArray) (hi : ∀ x ∈ l, I3 x) : SlR w w.heap.size (some ⟨g, 0, none⟩) l := fun k x hx => by
  obtain ⟨hk, rfl⟩ := List.getElem?_eq_some_iff.1 hx
  obtain ⟨i0, i1, i2⟩ := hi _ (List.getElem_mem hk)
  obtain ⟨r0, r1, r2⟩ := b3_at l k hk
  refine ⟨g, 0, [.int .i64 l[k].1, .int .i64 l[k].2.1, .int .i64 l[k].2.2], rfl, hb.lt, rfl, fun j u hu => ?_, [.int .i64 l[k].1], [.int .i64 l[k].2.1, .int .i64 l[k].2.2], rfl, rfl, rfl, ⟨rfl, i0⟩, [.int .i64 l[k].2.1], [.int .i64 l[k].2.2], rfl, rfl, rfl, ⟨rfl, i1⟩, rfl, i2⟩
  have h3 : Rep.size Bx = 3 := rfl
  rw [h3, hb.cell]
  match j, hu with
  | 0, hu => simp at hu; subst hu; simpa using r0
  | 1, hu => simp at hu; subst hu; simpa using r1
  | 2, hu => simp at hu; subst hu; simpa using r2
  | j + 3, hu => simp at hu
set_option maxRecDepth 100000 in
theorem one_any (n u : Int) (hn : I64 n) (hu : I64 u) (w : World) :
    Calls Tryz.prog 35 #[.int .i64 n, .int .i64 u] w fun e w' => ∃ A c, e = .returned (.slice A 1 c) ∧ SlR w' w'.heap.size A [((0 : Int), n, u)] ∧ Below w.heap.size w w' := by
  have B1 := hid ((Below.refl w.heap.size w).alloc (Nat.le_refl _) (Obj.cells #[.int .i64 0, .int .i64 n, .int .i64 u] 42))
  have S1 := hid (slr_b3 (l := [((0 : Int), n, u)]) (Blk.new w 42 #[.int .i64 0, .int .i64 n, .int .i64 u]) (fun x hx => by
    rcases List.mem_singleton.1 hx with rfl
    exact ⟨⟨by simp only; omega, by simp only; omega⟩, hn, hu⟩))
  go_enter Tryz.func35, Tryz.ntmps35
  go_wp2_with fail
  go_ret
  exact ⟨_, _, rfl, S1.out, B1.out⟩
end Go.Proofs.YtfpehakllnkaeaaGreatDoor
