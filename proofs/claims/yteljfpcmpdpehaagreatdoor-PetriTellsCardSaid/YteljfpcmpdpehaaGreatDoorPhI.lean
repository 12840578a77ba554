
/- Petri: Read (printed by gen_pgu.py out of XPgT). -/
import Derived.Test.YteljfpcmpdpehaaGreatDoorPhH
import Derived.Test.YteljfpcmpdpehaaGreatDoorEncB
import Derived.Test.YteljfpcmpdpehaaGreatDoorWireUr
import Derived.Test.YteljfpcmpdpehaaGreatDoorEncR
import Derived.Test.YteljfpcmpdpehaaGreatDoorWire5
set_option linter.unusedSimpArgs false
set_option linter.unusedVariables false
namespace Go.Proofs.YteljfpcmpdpehaaGreatDoor
open Go.RowKit Go.IntWalk Go.Shelf

def encTr (t : Tr) : List UInt8 := encL (t.1.map encI) ++ encL (t.2.map encI)
def encNet (n : Int) (T : List Tr) : List UInt8 := encI n ++ encI T.length ++ (T.map encTr).flatten
/-- A net that can be written down: its lists are no longer than that. -/
structure NetB (n : Int) (T : List Tr) : Prop where
  n : I64 n
  len : T.length ≤ 1000
  tr : ∀ t ∈ T, t.1.length ≤ 1000 ∧ t.2.length ≤ 1000 ∧ (∀ x ∈ t.1, I64 x) ∧ (∀ x ∈ t.2, I64 x)
theorem encI_le {n : Int} (h : I64 n) : (encI n).length ≤ 22 := by
  have := Lib.itoa_length_le n h.1 h.2
  simp [encI]; omega
theorem encIs_le {l : List Int} (h : ∀ x ∈ l, I64 x) : ((l.map encI).flatten).length ≤ l.length * 22 := by
  induction l with
  | nil => simp
  | cons x l ih =>
    rw [List.map_cons, List.flatten_cons, List.length_append, List.length_cons]
    have h1 := encI_le (h x (by simp))
    have h2 := ih (fun y hy => h y (by simp [hy]))
    omega
theorem encL_le {l : List Int} (h : ∀ x ∈ l, I64 x) (hl : l.length ≤ 1000) : (encL (l.map encI)).length ≤ 22100 := by
  have h1 := encIs_le h
  have h2 := Lib.itoa_length_le (l.length : Int) (by omega) (by omega)
  unfold encL
  simp only [List.length_append, List.length_map, List.length_cons, List.length_nil]
  omega
theorem encTr_le {t : Tr} (h : t.1.length ≤ 1000 ∧ t.2.length ≤ 1000 ∧ (∀ x ∈ t.1, I64 x) ∧ (∀ x ∈ t.2, I64 x)) : (encTr t).length ≤ 44200 := by
  have h1 := encL_le h.2.2.1 h.1
  have h2 := encL_le h.2.2.2 h.2.1
  unfold encTr
  rw [List.length_append]; omega
theorem encTrs_le {T : List Tr} (h : ∀ t ∈ T, t.1.length ≤ 1000 ∧ t.2.length ≤ 1000 ∧ (∀ x ∈ t.1, I64 x) ∧ (∀ x ∈ t.2, I64 x)) : ((T.map encTr).flatten).length ≤ T.length * 44200 := by
  induction T with
  | nil => simp
  | cons x l ih =>
    rw [List.map_cons, List.flatten_cons, List.length_append, List.length_cons]
    have h1 := encTr_le (h x (by simp))
    have h2 := ih (fun y hy => h y (by simp [hy]))
    omega
theorem addA (a b : List UInt8) (h : a.length ≤ 100000000000) (h2 : b.length ≤ 100000000000) : ¬ 9223372036854775807 < (bs a).size + (bs b).size := by rw [bs_size, bs_size]; omega
theorem addB (a b c : List UInt8) (h : a.length ≤ 100000000000) (h2 : b.length ≤ 100000000000) (h3 : c.length ≤ 100000000000) : (¬ 9223372036854775807 < (bs a).size + (bs b).size + (bs c).size) ∧ (¬ 9223372036854775807 < (bs a ++ bs b).size + (bs c).size) := by
  rw [bs_app, bs_size, bs_size, bs_size, bs_size, List.length_append]; omega
set_option maxRecDepth 100000 in
set_option maxHeartbeats 4000000 in
theorem rbytes_p (n : Int) (A : Option Addr) (c : Nat) (T : List Tr) (w : World) (h : SlR w w.heap.size A T) (hb : NetB n T) :
    Calls Tryz.prog 50 #[.agg #[.int .i64 n, .slice A T.length c]] w fun e w' => e = .returned (.string (bs (encNet n T))) ∧ Below w.heap.size w w' := by
  obtain ⟨w1, hw1⟩ : ∃ w1, w1 = (w.alloc (Obj.cells #[.int .i64 n, .slice A T.length c] 24)) := ⟨_, rfl⟩
  have B1 : Below w.heap.size w w1 := by rw [hw1]; (repeat (first | exact Below.refl _ _ | assumption | refine below_drewN ?_ _ | refine Below.drew ?_ | refine Below.alloc ?_ (by (try simp); (try omega)) _ | refine Below.setCell ?_ (by (try simp); (try omega)) _))
  have x1 : Blk w1 w.heap.size 24 #[.int .i64 n, .slice A T.length c] := by rw [hw1]; exact Blk.new w _ _
  have HX := hid (fun (W : World) (hW : Below w1.heap.size w1 W) => And.intro (show W.cell? ⟨w.heap.size, 0, none⟩ = some (.int .i64 n) from (bcell hW _ _ x1.lt).trans (by rw [x1.cell]; rfl)) (And.intro (show W.cell? ⟨w.heap.size, 1, none⟩ = some (.slice A T.length c) from (bcell hW _ _ x1.lt).trans (by rw [x1.cell]; rfl)) (show w.heap.size < W.heap.size from Nat.lt_of_lt_of_le x1.lt hW.size)))
  have HB1 := hid B1
  have HTT := hid (fun (W : World) (hW : Below w1.heap.size w1 W) => show SlR W W.heap.size A T from (h.below (B1.trans (hW.mono B1.size))).more (B1.trans (hW.mono B1.size)).size)

  have HNB := hid hb
  have hn := hb.n
  have hl := hb.len
  have hI : I64 (T.length : Int) := ⟨by omega, by omega⟩
  have hs1 : (bs (encI n)).size ≤ 22 := by rw [bs_size]; exact encI_le hn
  have hs2 : (bs (encI T.length)).size ≤ 22 := by rw [bs_size]; exact encI_le hI
  have hfl := hid (encTrs_le hb.tr)
  have hpre := hid (show (encI n ++ encI T.length).length ≤ 44 by rw [List.length_append]; have h1 := encI_le hn; have h2 := encI_le hI; omega)
  clear x1 B1 h hb
  obtain ⟨y0, y1, z1⟩ := HX.out w1 (Below.refl _ _)
  go_enter Tryz.func50, Tryz.ntmps50
  go_upto_region 1 with fail
  rw [← hw1]
  clear hw1
  have hx := fun x : Ext (GB w1) => GB.cell x
  
  have ca := hid fun x : Ext (GB w1) => GB.call (rInt_any n hn x.w)
  have cb : Hid (∀ x : Ext (GB w1), Calls Tryz.prog 83 #[.int .i64 T.length] x.w fun e w'' => e = .returned (.string (bs (encI T.length))) ∧ ∃ y : Ext (GB w1), w'' = y.w) := hid fun x => by
    have := GB.call (rNum_any T.length hI x.w)
    rw [if_neg (by omega)] at this
    exact this
  refine wp_region_ext (GB w1) (by kernel_rfl) (by kernel_rfl) (GB.refl _) ?_
  repeat (go_big_quiet_step (first | exact ca.out _ | exact cb.out _))
  refine wpQuiet_nil ?_
  intro w3 hG
  have HB3 := hid (show Below w1.heap.size w1 w3 from hG.out)
  clear hx ca cb hG y0 y1 z1
  obtain ⟨y0, y1, z1⟩ := HX.out w3 HB3.out
  rw [show bs (encI n) ++ bs (encI T.length) = bs (encI n ++ encI T.length) from bs_app _ _]
  obtain ⟨pre, hpr⟩ : ∃ pre, pre = encI n ++ encI T.length := ⟨_, rfl⟩
  rw [← hpr] at hpre ⊢
  have HPRE := hid hpr
  clear hpr
  go_upto_region 3 with fail
  clear y0 y1 z1
  go_loopw [3, 4] (fun sv i wr => ∃ k : Nat, k ≤ T.length ∧ i = .int .i64 k ∧ sv = .string (bs (pre ++ ((T.take k).map encTr).flatten)) ∧ Below w1.heap.size w1 wr) (fun _ i _ => T.length - (intOf i).toNat)
  case atStart => exact ⟨0, by omega, rfl, by simp, HB3.out⟩
  case round =>
    clear HB3
    obtain ⟨k, hk, rfl, rfl, hB⟩ := hrel
    have HB := hid hB
    clear hB
    obtain ⟨y0, y1, z1⟩ := HX.out wr HB.out
    by_cases hlt : k < T.length
    · have hlt' : (k : Int) < T.length := by omega
      have hsn := hid (flat_snoc3 encTr T k hlt)
      have hlen := hid (show (pre ++ ((T.take k).map encTr).flatten).length ≤ 45000000 by
        rw [List.length_append]
        have h1 := flat_take encTr T k
        have h2 := hfl.out
        have h3 := hpre.out
        omega)
      have htb := HNB.out.tr _ (List.getElem_mem hlt)
      obtain ⟨b, off, A1, c1, A2, c2, rfl, hb, g0, g1, q1, q2, l1, l2⟩ := (HTT.out wr HB.out).tr hlt
      obtain ⟨acc, hac⟩ : ∃ acc, acc = pre ++ ((T.take k).map encTr).flatten := ⟨_, rfl⟩
      have hacc := hid (show pre ++ ((T.take k).map encTr).flatten = acc from hac.symm)
      rw [← hac] at hlen ⊢
      clear hac
      generalize T[k] = t at *
      obtain ⟨I, O⟩ := t
      simp only at g0 g1 q1 q2 l1 l2 htb
      have heq := hid (show bs acc ++ bs (encL (I.map encI)) ++ bs (encL (O.map encI)) = bs (pre ++ ((T.take (k + 1)).map encTr).flatten) by
        rw [hsn.out, ← List.append_assoc, hacc.out, bs_app, bs_app]; unfold encTr; rw [List.append_assoc])
      have hsI := hid (encL_le htb.2.2.1 htb.1)
      have hsO := hid (encL_le htb.2.2.2 htb.2.1)
      have hfI : ((I.map encI).flatten).length ≤ 1000000000000 := by have := encIs_le htb.2.2.1; omega
      have hfO : ((O.map encI).flatten).length ≤ 1000000000000 := by have := encIs_le htb.2.2.2; omega
      go_upto_region 5 with fail
      have p1 := addA acc (encL (I.map encI)) (by have := hlen.out; omega) (by have := hsI.out; omega)
      obtain ⟨p2, p3⟩ := addB acc (encL (I.map encI)) (encL (O.map encI)) (by have := hlen.out; omega) (by have := hsI.out; omega) (by have := hsO.out; omega)
      have HSF := hid (fun (wq : World) (hq : Below wr.heap.size wr wq) => And.intro (HX.out wq (HB.out.trans (hq.mono HB.out.size))) (And.intro ((bcell hq _ _ hb).trans g0) ((bcell hq _ _ hb).trans g1)))
      have HC1 := hid (fun (wq : World) (hq : Below wr.heap.size wr wq) => rNums_any A1 c1 I wq hfI (by omega) ((q1.below hq).more hq.size))
      have HC2 := hid (fun (wq : World) (hq : Below wr.heap.size wr wq) => rNums_any A2 c2 O wq hfO (by omega) ((q2.below hq).more hq.size))
      have BD := hid ((Below.refl wr.heap.size wr).drew)
      refine wpIn_wide.1 (wpIn_region_S (n := 0) (fun wq => Below wr.heap.size wr wq) [] (by kernel_rfl) BD.out (fun hHeld => ?_))
      generalize wr.drew = wd at *
      clear y0 y1 g0 g1 q1 q2 l1 l2 htb hfI hfO
      generalize encL (I.map encI) = eI at *
      generalize encL (O.map encI) = eO at *
      refine wpAnyG_pure 0 (v := ?_) (fun _ => trivial) (by simp only [List.getElem?_toArray, List.getElem?_cons_succ, List.getElem?_cons_zero]; rfl) (by kernel_rfl) (fun _ _ _ _ _ h => h) ⟨(by rfl), (by intro c h; cases h), ?_⟩ hHeld ?_
      rotate_left
      focus (intro wS hSw; (try replace hSw := HSF.out wS hSw); (try dsimp only at hSw); go_simp; (try with_reducible rfl))
      (try simp only [Act.put, List.setIfInBounds_toArray, List.set_cons_zero, List.set_cons_succ])
      refine wpAnyG_pure 1 (v := ?_) (fun _ => trivial) (by simp only [List.getElem?_toArray, List.getElem?_cons_succ, List.getElem?_cons_zero]; rfl) (by kernel_rfl) (fun _ _ _ _ _ h => h) ⟨(by rfl), (by intro c h; cases h), ?_⟩ hHeld ?_
      rotate_left
      focus (intro wS hSw; (try replace hSw := HSF.out wS hSw); (try dsimp only at hSw); go_simp; (try with_reducible rfl))
      (try simp only [Act.put, List.setIfInBounds_toArray, List.set_cons_zero, List.set_cons_succ])
      refine wpAnyG_take 2 (v := ?_) (fun _ => trivial) (by simp only [List.getElem?_toArray, List.getElem?_cons_succ, List.getElem?_cons_zero]; rfl) (by kernel_rfl) (fun _ _ _ _ _ h => h) ⟨(by rfl), (by intro c h; cases h), ?_⟩ hHeld ?_
      rotate_left
      focus (intro wS hSw; (try replace hSw := HSF.out wS hSw); (try dsimp only at hSw); go_simp; (try with_reducible rfl))
      (try simp only [Act.put, List.setIfInBounds_toArray, List.set_cons_zero, List.set_cons_succ])
      refine wpAnyG_pure 3 (v := ?_) (fun _ => trivial) (by simp only [List.getElem?_toArray, List.getElem?_cons_succ, List.getElem?_cons_zero]; rfl) (by kernel_rfl) (fun _ _ _ _ _ h => h) ⟨(by rfl), (by intro c h; cases h), ?_⟩ hHeld ?_
      rotate_left
      focus (intro wS hSw; (try replace hSw := HSF.out wS hSw); (try dsimp only at hSw); go_simp; (try with_reducible rfl))
      (try simp only [Act.put, List.setIfInBounds_toArray, List.set_cons_zero, List.set_cons_succ])
      refine wpAnyG_pure 4 (v := ?_) (fun _ => trivial) (by simp only [List.getElem?_toArray, List.getElem?_cons_succ, List.getElem?_cons_zero]; rfl) (by kernel_rfl) (fun _ _ _ _ _ h => h) ⟨(by rfl), (by intro c h; cases h), ?_⟩ hHeld ?_
      rotate_left
      focus (intro wS hSw; (try replace hSw := HSF.out wS hSw); (try dsimp only at hSw); go_simp; (try with_reducible rfl))
      (try simp only [Act.put, List.setIfInBounds_toArray, List.set_cons_zero, List.set_cons_succ])
      refine wpAnyG_pure 5 (v := ?_) (fun _ => trivial) (by simp only [List.getElem?_toArray, List.getElem?_cons_succ, List.getElem?_cons_zero]; rfl) (by kernel_rfl) (fun _ _ _ _ _ h => h) ⟨(by rfl), (by intro c h; cases h), ?_⟩ hHeld ?_
      rotate_left
      focus (intro wS hSw; (try replace hSw := HSF.out wS hSw); (try dsimp only at hSw); go_simp; (try with_reducible rfl))
      (try simp only [Act.put, List.setIfInBounds_toArray, List.set_cons_zero, List.set_cons_succ])
      refine wpAnyG_take 6 (v := ?_) (fun _ => trivial) (by simp only [List.getElem?_toArray, List.getElem?_cons_succ, List.getElem?_cons_zero]; rfl) (by kernel_rfl) (fun _ _ _ _ _ h => h) ⟨(by rfl), (by intro c h; cases h), ?_⟩ hHeld ?_
      rotate_left
      focus (intro wS hSw; (try replace hSw := HSF.out wS hSw); (try dsimp only at hSw); go_simp; (try with_reducible rfl))
      (try simp only [Act.put, List.setIfInBounds_toArray, List.set_cons_zero, List.set_cons_succ])
      refine wpAnyG_pure 9 (v := ?_) (fun _ => trivial) (by simp only [List.getElem?_toArray, List.getElem?_cons_succ, List.getElem?_cons_zero]; rfl) (by kernel_rfl) (fun _ _ _ _ _ h => h) ⟨(by rfl), (by intro c h; cases h), ?_⟩ hHeld ?_
      rotate_left
      focus (intro wS hSw; (try replace hSw := HSF.out wS hSw); (try dsimp only at hSw); go_simp; (try with_reducible rfl))
      (try simp only [Act.put, List.setIfInBounds_toArray, List.set_cons_zero, List.set_cons_succ])
      refine wpAnyG_take 10 (v := ?_) (fun _ => trivial) (by simp only [List.getElem?_toArray, List.getElem?_cons_succ, List.getElem?_cons_zero]; rfl) (by kernel_rfl) (fun _ _ _ _ _ h => h) ⟨(by rfl), (by intro c h; cases h), ?_⟩ hHeld ?_
      rotate_left
      focus (intro wS hSw; (try replace hSw := HSF.out wS hSw); (try dsimp only at hSw); go_simp; (try with_reducible rfl))
      (try simp only [Act.put, List.setIfInBounds_toArray, List.set_cons_zero, List.set_cons_succ])
      refine wpAnyG_pure 11 (v := ?_) (fun _ => trivial) (by simp only [List.getElem?_toArray, List.getElem?_cons_succ, List.getElem?_cons_zero]; rfl) (by kernel_rfl) (fun _ _ _ _ _ h => h) ⟨(by rfl), (by intro c h; cases h), ?_⟩ hHeld ?_
      rotate_left
      focus (intro wS hSw; (try replace hSw := HSF.out wS hSw); (try dsimp only at hSw); go_simp; (try with_reducible rfl))
      (try simp only [Act.put, List.setIfInBounds_toArray, List.set_cons_zero, List.set_cons_succ])
      refine wpAnyG_pure 12 (v := ?_) (fun _ => trivial) (by simp only [List.getElem?_toArray, List.getElem?_cons_succ, List.getElem?_cons_zero]; rfl) (by kernel_rfl) (fun _ _ _ _ _ h => h) ⟨(by rfl), (by intro c h; cases h), ?_⟩ hHeld ?_
      rotate_left
      focus (intro wS hSw; (try replace hSw := HSF.out wS hSw); (try dsimp only at hSw); go_simp; (try with_reducible rfl))
      (try simp only [Act.put, List.setIfInBounds_toArray, List.set_cons_zero, List.set_cons_succ])
      refine wpAnyG_pure 13 (v := ?_) (fun _ => trivial) (by simp only [List.getElem?_toArray, List.getElem?_cons_succ, List.getElem?_cons_zero]; rfl) (by kernel_rfl) (fun _ _ _ _ _ h => h) ⟨(by rfl), (by intro c h; cases h), ?_⟩ hHeld ?_
      rotate_left
      focus (intro wS hSw; (try replace hSw := HSF.out wS hSw); (try dsimp only at hSw); go_simp; (try with_reducible rfl))
      (try simp only [Act.put, List.setIfInBounds_toArray, List.set_cons_zero, List.set_cons_succ])
      refine wpAnyG_take 14 (v := ?_) (fun _ => trivial) (by simp only [List.getElem?_toArray, List.getElem?_cons_succ, List.getElem?_cons_zero]; rfl) (by kernel_rfl) (fun _ _ _ _ _ h => h) ⟨(by rfl), (by intro c h; cases h), ?_⟩ hHeld ?_
      rotate_left
      focus (intro wS hSw; (try replace hSw := HSF.out wS hSw); (try dsimp only at hSw); go_simp; (try with_reducible rfl))
      (try simp only [Act.put, List.setIfInBounds_toArray, List.set_cons_zero, List.set_cons_succ])
      refine wpAnyS_ready [7] (by kernel_rfl) (by simp) (AllReadyS.consG (by simp only [List.getElem?_toArray, List.getElem?_cons_succ, List.getElem?_cons_zero]; rfl) (by rfl) (fun K hK => ?_) AllReadyS.nil)
      refine callS (by intro c h; cases h) (by go_simp; try with_reducible rfl) (HC1.out _ BD.out) ?_
      intro wa hBq
      have Ba := hid (BD.out.trans (hBq.mono BD.out.size))
      refine hK.out _ _ Ba.out ?_
      (try simp only [Act.put, List.setIfInBounds_toArray, List.set_cons_zero, List.set_cons_succ])
      clear hK K hBq
      clear hHeld
      have hHeld := Ba.out
      refine wpAnyG_pure 8 (v := ?_) (fun _ => trivial) (by simp only [List.getElem?_toArray, List.getElem?_cons_succ, List.getElem?_cons_zero]; rfl) (by kernel_rfl) (fun _ _ _ _ _ h => h) ⟨(by rfl), (by intro c h; cases h), ?_⟩ hHeld ?_
      rotate_left
      focus (intro wS hSw; (try replace hSw := HSF.out wS hSw); (try dsimp only at hSw); go_simp; (try with_reducible rfl))
      (try simp only [Act.put, List.setIfInBounds_toArray, List.set_cons_zero, List.set_cons_succ])
      refine wpAnyS_ready [15] (by kernel_rfl) (by simp) (AllReadyS.consG (by simp only [List.getElem?_toArray, List.getElem?_cons_succ, List.getElem?_cons_zero]; rfl) (by rfl) (fun K hK => ?_) AllReadyS.nil)
      refine callS (by intro c h; cases h) (by go_simp; try with_reducible rfl) (HC2.out _ Ba.out) ?_
      intro w6 hBq
      have hG := hid (Ba.out.trans (hBq.mono Ba.out.size))
      refine hK.out _ _ hG.out ?_
      (try simp only [Act.put, List.setIfInBounds_toArray, List.set_cons_zero, List.set_cons_succ])
      clear hK K hBq
      clear hHeld
      have hHeld := hG.out
      refine wpAnyG_pure 16 (v := ?_) (fun _ => trivial) (by simp only [List.getElem?_toArray, List.getElem?_cons_succ, List.getElem?_cons_zero]; rfl) (by kernel_rfl) (fun _ _ _ _ _ h => h) ⟨(by rfl), (by intro c h; cases h), ?_⟩ hHeld ?_
      rotate_left
      focus (intro wS hSw; (try replace hSw := HSF.out wS hSw); (try dsimp only at hSw); go_simp; (try with_reducible rfl))
      (try simp only [Act.put, List.setIfInBounds_toArray, List.set_cons_zero, List.set_cons_succ])
      refine wpAnyG_pure 17 (v := ?_) (fun _ => trivial) (by simp only [List.getElem?_toArray, List.getElem?_cons_succ, List.getElem?_cons_zero]; rfl) (by kernel_rfl) (fun _ _ _ _ _ h => h) ⟨(by rfl), (by intro c h; cases h), ?_⟩ hHeld ?_
      rotate_left
      focus (intro wS hSw; (try replace hSw := HSF.out wS hSw); (try dsimp only at hSw); go_simp; (try with_reducible rfl))
      (try simp only [Act.put, List.setIfInBounds_toArray, List.set_cons_zero, List.set_cons_succ])
      refine wpAnyS_done (by kernel_rfl) ?_
      clear hHeld HSF HC1 HC2 BD Ba
      have HB6 := hid (HB.out.trans (hG.out.mono HB.out.size))

      clear hG
      go_wp2_with fail
      go_roundw
      case rel => exact ⟨k + 1, by omega, by go_num, by rw [heq.out], HB6.out⟩
      case measure => simp [intOf]; omega
    · obtain rfl : k = T.length := by omega
      rw [List.take_length]
      as_aux_lemma =>
        go_wp2_with fail
        go_ret
        exact ⟨ret_str (by unfold encNet; rw [HPRE.out]), HB1.out.trans (HB.out.mono HB1.out.size)⟩

set_option maxRecDepth 100000 in
set_option maxHeartbeats 2000000 in
theorem same_p (n1 n2 : Int) (A1 A2 : Option Addr) (c1 c2 : Nat) (T1 T2 : List Tr) (w : World) (h1 : SlR w w.heap.size A1 T1) (h2 : SlR w w.heap.size A2 T2) (b1 : NetB n1 T1) (b2 : NetB n2 T2) :
    Calls Tryz.prog 10 #[.agg #[.int .i64 n1, .slice A1 T1.length c1], .agg #[.int .i64 n2, .slice A2 T2.length c2]] w fun e w' => e = .returned (.bool (decide (encNet n1 T1 = encNet n2 T2))) ∧ Below w.heap.size w w' := by
  obtain ⟨w1, hw1⟩ : ∃ w1, w1 = ((w.alloc (Obj.cells #[.int .i64 n1, .slice A1 T1.length c1] 24)).alloc (Obj.cells #[.int .i64 n2, .slice A2 T2.length c2] 24)) := ⟨_, rfl⟩
  have B1 := hid (show Below w.heap.size w w1 by rw [hw1]; (repeat (first | exact Below.refl _ _ | assumption | refine below_drewN ?_ _ | refine Below.drew ?_ | refine Below.alloc ?_ (by (try simp); (try omega)) _ | refine Below.setCell ?_ (by (try simp); (try omega)) _)))
  have x1 : Blk w1 w.heap.size 24 #[.int .i64 n1, .slice A1 T1.length c1] := by rw [hw1]; exact (Blk.new w _ _).alloc _
  have x2 : Blk w1 (w.heap.size + 1) 24 #[.int .i64 n2, .slice A2 T2.length c2] := by rw [hw1]; exact Blk.new_at (by simp)
  have HSF := hid (fun (W : World) (hW : Below w1.heap.size w1 W) => And.intro (And.intro (show W.cell? ⟨w.heap.size, 0, none⟩ = some (.int .i64 n1) from (bcell hW _ _ x1.lt).trans (by rw [x1.cell]; rfl)) (show W.cell? ⟨w.heap.size, 1, none⟩ = some (.slice A1 T1.length c1) from (bcell hW _ _ x1.lt).trans (by rw [x1.cell]; rfl))) (And.intro (show W.cell? ⟨w.heap.size + 1, 0, none⟩ = some (.int .i64 n2) from (bcell hW _ _ x2.lt).trans (by rw [x2.cell]; rfl)) (show W.cell? ⟨w.heap.size + 1, 1, none⟩ = some (.slice A2 T2.length c2) from (bcell hW _ _ x2.lt).trans (by rw [x2.cell]; rfl))))
  have HC1 := hid (fun (W : World) (hW : Below w1.heap.size w1 W) => rbytes_p n1 A1 c1 T1 W ((h1.below (B1.out.trans (hW.mono B1.out.size))).more (B1.out.trans (hW.mono B1.out.size)).size) b1)
  have HC2 := hid (fun (W : World) (hW : Below w1.heap.size w1 W) => rbytes_p n2 A2 c2 T2 W ((h2.below (B1.out.trans (hW.mono B1.out.size))).more (B1.out.trans (hW.mono B1.out.size)).size) b2)
  have z1 := x1.lt; have z2 := x2.lt
  clear h1 h2 b1 b2 x1 x2
  have heqd := hid (show ((bs (encNet n1 T1)).toList == (bs (encNet n2 T2)).toList) = decide (encNet n1 T1 = encNet n2 T2) by
    rw [bs_list, bs_list, Bool.eq_iff_iff]; simp)
  generalize encNet n1 T1 = e1 at *
  generalize encNet n2 T2 = e2 at *
  go_enter Tryz.func10, Tryz.ntmps10
  go_upto_region 1 with fail
  rw [← hw1]
  clear hw1
  have BD := hid ((Below.refl w1.heap.size w1).drew)
  refine wpIn_wide.1 (wpIn_region_S (n := 0) (fun wq => Below w1.heap.size w1 wq) [] (by kernel_rfl) BD.out (fun hHeld => ?_))
  generalize w1.drew = wd at *
  refine wpAnyG_take 0 (v := ?_) (fun _ => trivial) (by simp only [List.getElem?_toArray, List.getElem?_cons_succ, List.getElem?_cons_zero]; rfl) (by kernel_rfl) (fun _ _ _ _ _ h => h) ⟨(by rfl), (by intro c h; cases h), ?_⟩ hHeld ?_
  rotate_left
  focus (intro wS hSw; (try replace hSw := HSF.out wS hSw); (try dsimp only at hSw); go_simp; (try with_reducible rfl))
  (try simp only [Act.put, List.setIfInBounds_toArray, List.set_cons_zero, List.set_cons_succ])
  refine wpAnyG_take 2 (v := ?_) (fun _ => trivial) (by simp only [List.getElem?_toArray, List.getElem?_cons_succ, List.getElem?_cons_zero]; rfl) (by kernel_rfl) (fun _ _ _ _ _ h => h) ⟨(by rfl), (by intro c h; cases h), ?_⟩ hHeld ?_
  rotate_left
  focus (intro wS hSw; (try replace hSw := HSF.out wS hSw); (try dsimp only at hSw); go_simp; (try with_reducible rfl))
  (try simp only [Act.put, List.setIfInBounds_toArray, List.set_cons_zero, List.set_cons_succ])
  refine wpAnyS_ready [1] (by kernel_rfl) (by simp) (AllReadyS.consG (by simp only [List.getElem?_toArray, List.getElem?_cons_succ, List.getElem?_cons_zero]; rfl) (by rfl) (fun K hK => ?_) AllReadyS.nil)
  refine callS (by intro c h; cases h) (by go_simp; try with_reducible rfl) (HC1.out _ BD.out) ?_
  intro wa hBq
  have Ba := hid (BD.out.trans (hBq.mono BD.out.size))
  refine hK.out _ _ Ba.out ?_
  (try simp only [Act.put, List.setIfInBounds_toArray, List.set_cons_zero, List.set_cons_succ])
  clear hK K hBq
  clear hHeld
  have hHeld := Ba.out
  refine wpAnyS_ready [3] (by kernel_rfl) (by simp) (AllReadyS.consG (by simp only [List.getElem?_toArray, List.getElem?_cons_succ, List.getElem?_cons_zero]; rfl) (by rfl) (fun K hK => ?_) AllReadyS.nil)
  refine callS (by intro c h; cases h) (by go_simp; try with_reducible rfl) (HC2.out _ Ba.out) ?_
  intro wb hBq
  have Bb := hid (Ba.out.trans (hBq.mono Ba.out.size))
  refine hK.out _ _ Bb.out ?_
  (try simp only [Act.put, List.setIfInBounds_toArray, List.set_cons_zero, List.set_cons_succ])
  clear hK K hBq
  clear hHeld
  have hHeld := Bb.out
  refine wpAnyG_pure 4 (v := ?_) (fun _ => trivial) (by simp only [List.getElem?_toArray, List.getElem?_cons_succ, List.getElem?_cons_zero]; rfl) (by kernel_rfl) (fun _ _ _ _ _ h => h) ⟨(by rfl), (by intro c h; cases h), ?_⟩ hHeld ?_
  rotate_left
  focus (intro wS hSw; (try replace hSw := HSF.out wS hSw); (try dsimp only at hSw); go_simp; (try with_reducible rfl))
  (try simp only [Act.put, List.setIfInBounds_toArray, List.set_cons_zero, List.set_cons_succ])
  refine wpAnyG_pure 5 (v := ?_) (fun _ => trivial) (by simp only [List.getElem?_toArray, List.getElem?_cons_succ, List.getElem?_cons_zero]; rfl) (by kernel_rfl) (fun _ _ _ _ _ h => h) ⟨(by rfl), (by intro c h; cases h), ?_⟩ hHeld ?_
  rotate_left
  focus (intro wS hSw; (try replace hSw := HSF.out wS hSw); (try dsimp only at hSw); go_simp; (try with_reducible rfl))
  (try simp only [Act.put, List.setIfInBounds_toArray, List.set_cons_zero, List.set_cons_succ])
  refine wpAnyS_done (by kernel_rfl) ?_
  clear hHeld HSF
  go_wp2_with fail
  go_ret
  exact ⟨ret_bool heqd.out, B1.out.trans (Bb.out.mono B1.out.size)⟩
set_option maxRecDepth 100000 in
set_option maxHeartbeats 4000000 in
theorem pbytes_p (n : Int) (A : Option Addr) (c : Nat) (T : List Tr) (w : World) (h : SlR w w.heap.size A T) (hb : NetB n T) (he : Env w) :
    Calls Tryz.prog 11 #[.agg #[.int .i64 n, .slice A T.length c]] w fun e w' => e = .returned (.string (bs (encNet n T))) ∧ Below w.heap.size w w' := by
  obtain ⟨w1, hw1⟩ : ∃ w1, w1 = (w.alloc (Obj.cells #[.int .i64 n, .slice A T.length c] 24)) := ⟨_, rfl⟩
  have B1 : Below w.heap.size w w1 := by rw [hw1]; (repeat (first | exact Below.refl _ _ | assumption | refine below_drewN ?_ _ | refine Below.drew ?_ | refine Below.alloc ?_ (by (try simp); (try omega)) _ | refine Below.setCell ?_ (by (try simp); (try omega)) _))
  have x1 : Blk w1 w.heap.size 24 #[.int .i64 n, .slice A T.length c] := by rw [hw1]; exact Blk.new w _ _
  have HX := hid (fun (W : World) (hW : Below w1.heap.size w1 W) => And.intro (show W.cell? ⟨w.heap.size, 0, none⟩ = some (.int .i64 n) from (bcell hW _ _ x1.lt).trans (by rw [x1.cell]; rfl)) (And.intro (show W.cell? ⟨w.heap.size, 1, none⟩ = some (.slice A T.length c) from (bcell hW _ _ x1.lt).trans (by rw [x1.cell]; rfl)) (show w.heap.size < W.heap.size from Nat.lt_of_lt_of_le x1.lt hW.size)))
  have HB1 := hid B1
  have HTT := hid (fun (W : World) (hW : Below w1.heap.size w1 W) => show SlR W W.heap.size A T from (h.below (B1.trans (hW.mono B1.size))).more (B1.trans (hW.mono B1.size)).size)
  have HE := hid (fun (W : World) (hW : Below w1.heap.size w1 W) => (he.below (B1.trans (hW.mono B1.size)) : Env W))
  have HNB := hid hb
  have hn := hb.n
  have hl := hb.len
  have hI : I64 (T.length : Int) := ⟨by omega, by omega⟩
  have hs1 : (bs (encI n)).size ≤ 22 := by rw [bs_size]; exact encI_le hn
  have hs2 : (bs (encI T.length)).size ≤ 22 := by rw [bs_size]; exact encI_le hI
  have hfl := hid (encTrs_le hb.tr)
  have hpre := hid (show (encI n ++ encI T.length).length ≤ 44 by rw [List.length_append]; have h1 := encI_le hn; have h2 := encI_le hI; omega)
  clear x1 B1 h hb he
  obtain ⟨y0, y1, z1⟩ := HX.out w1 (Below.refl _ _)
  go_enter Tryz.func11, Tryz.ntmps11
  go_upto_region 1 with fail
  rw [← hw1]
  clear hw1
  have hx := fun x : Ext (GB w1) => GB.cell x
  have env := hid (fun x : Ext (GB w1) => HE.out x.w x.h.out)
  have ca := hid fun x : Ext (GB w1) => GB.call (wInt_any n hn x.w (env.out x))
  have cb : Hid (∀ x : Ext (GB w1), Calls Tryz.prog 52 #[.int .i64 T.length] x.w fun e w'' => e = .returned (.string (bs (encI T.length))) ∧ ∃ y : Ext (GB w1), w'' = y.w) := hid fun x => by
    have := GB.call (wNum_any T.length hI x.w (env.out x))
    rw [if_neg (by omega)] at this
    exact this
  refine wp_region_ext (GB w1) (by kernel_rfl) (by kernel_rfl) (GB.refl _) ?_
  repeat (go_big_quiet_step (first | exact ca.out _ | exact cb.out _))
  refine wpQuiet_nil ?_
  intro w3 hG
  have HB3 := hid (show Below w1.heap.size w1 w3 from hG.out)
  clear hx ca cb hG y0 y1 z1 env
  obtain ⟨y0, y1, z1⟩ := HX.out w3 HB3.out
  rw [show bs (encI n) ++ bs (encI T.length) = bs (encI n ++ encI T.length) from bs_app _ _]
  obtain ⟨pre, hpr⟩ : ∃ pre, pre = encI n ++ encI T.length := ⟨_, rfl⟩
  rw [← hpr] at hpre ⊢
  have HPRE := hid hpr
  clear hpr
  go_upto_region 3 with fail
  clear y0 y1 z1
  go_loopw [3, 17] (fun sv i wr => ∃ k : Nat, k ≤ T.length ∧ i = .int .i64 k ∧ sv = .string (bs (pre ++ ((T.take k).map encTr).flatten)) ∧ Below w1.heap.size w1 wr) (fun _ i _ => T.length - (intOf i).toNat)
  case atStart => exact ⟨0, by omega, rfl, by simp, HB3.out⟩
  case round =>
    clear HB3
    obtain ⟨k, hk, rfl, rfl, hB⟩ := hrel
    have HB := hid hB
    clear hB
    by_cases hlt : k < T.length
    · have hlt' : (k : Int) < T.length := by omega
      have hsn := hid (flat_snoc3 encTr T k hlt)
      have hlen := hid (show (pre ++ ((T.take k).map encTr).flatten).length ≤ 45000000 by
        rw [List.length_append]
        have h1 := flat_take encTr T k
        have h2 := hfl.out
        have h3 := hpre.out
        omega)
      have htb := HNB.out.tr _ (List.getElem_mem hlt)
      obtain ⟨b, off, A1, c1, A2, c2, rfl, hb, g0, g1, q1, q2, l1, l2⟩ := (HTT.out wr HB.out).tr hlt
      obtain ⟨acc, hac⟩ : ∃ acc, acc = pre ++ ((T.take k).map encTr).flatten := ⟨_, rfl⟩
      have hacc := hid (show pre ++ ((T.take k).map encTr).flatten = acc from hac.symm)
      rw [← hac] at hlen ⊢
      clear hac
      generalize T[k] = t at *
      obtain ⟨I, O⟩ := t
      simp only at g0 g1 q1 q2 l1 l2 htb
      have heq := hid (show bs acc ++ (bs (encL (I.map encI)) ++ bs (encL (O.map encI))) = bs (pre ++ ((T.take (k + 1)).map encTr).flatten) by
        rw [hsn.out, ← List.append_assoc, hacc.out, bs_app, bs_app]; rfl)
      have hsI := hid (encL_le htb.2.2.1 htb.1)
      have hsO := hid (encL_le htb.2.2.2 htb.2.1)
      have hfI : ((I.map encI).flatten).length ≤ 1000000000000 := by have := encIs_le htb.2.2.1; omega
      have hfO : ((O.map encI).flatten).length ≤ 1000000000000 := by have := encIs_le htb.2.2.2; omega
      have p1 := addA (encL (I.map encI)) (encL (O.map encI)) (by have := hsI.out; omega) (by have := hsO.out; omega)
      have p2 := addA acc (encL (I.map encI) ++ encL (O.map encI)) (by have := hlen.out; omega) (by rw [List.length_append]; have := hsI.out; have := hsO.out; omega)
      rw [← bs_app] at p2
      have p3 : ¬ 9223372036854775807 < (bs acc).size + ((bs (encL (I.map encI))).size + (bs (encL (O.map encI))).size) := by
        have h1 := hlen.out; have h2 := hsI.out; have h3 := hsO.out
        rw [bs_size, bs_size, bs_size]; omega
      go_upto_region 5 with fail
      have X5 := hid (Blk.new wr 47 #[.slice A1 I.length c1, .slice A2 O.length c2])
      have HB5 := hid (show Below w1.heap.size w1 (wr.alloc (Obj.cells #[.slice A1 I.length c1, .slice A2 O.length c2] 47)) from HB.out.alloc HB.out.size _)
      have Q1 := hid ((q1.alloc (Nat.le_refl _) (Obj.cells #[.slice A1 I.length c1, .slice A2 O.length c2] 47)).more (B' := (wr.alloc (Obj.cells #[.slice A1 I.length c1, .slice A2 O.length c2] 47)).heap.size) (by simp))
      have Q2 := hid ((q2.alloc (Nat.le_refl _) (Obj.cells #[.slice A1 I.length c1, .slice A2 O.length c2] 47)).more (B' := (wr.alloc (Obj.cells #[.slice A1 I.length c1, .slice A2 O.length c2] 47)).heap.size) (by simp))
      clear q1 q2 g0 g1
      generalize wr.heap.size = gB at *
      generalize (wr.alloc (Obj.cells #[.slice A1 I.length c1, .slice A2 O.length c2] 47)) = w5 at *
      have HSF := hid (fun (wq : World) (hq : Below w5.heap.size w5 wq) => And.intro (show wq.cell? ⟨gB, 0, none⟩ = some (.slice A1 I.length c1) from (bcell hq _ _ X5.out.lt).trans (by rw [X5.out.cell]; rfl)) (show wq.cell? ⟨gB, 1, none⟩ = some (.slice A2 O.length c2) from (bcell hq _ _ X5.out.lt).trans (by rw [X5.out.cell]; rfl)))
      have HEq := hid (fun (wq : World) (hq : Below w5.heap.size w5 wq) => HE.out wq (HB5.out.trans (hq.mono HB5.out.size)))
      have HC1 := hid (fun (wq : World) (hq : Below w5.heap.size w5 wq) => wNums_any A1 c1 I wq hfI (by omega) ((Q1.out.below hq).more hq.size) (HEq.out wq hq))
      have HC2 := hid (fun (wq : World) (hq : Below w5.heap.size w5 wq) => wNums_any A2 c2 O wq hfO (by omega) ((Q2.out.below hq).more hq.size) (HEq.out wq hq))
      have BD := hid ((Below.refl w5.heap.size w5).drew)
      refine wpIn_wide.1 (wpIn_region_S (n := 0) (fun wq => Below w5.heap.size w5 wq) [] (by kernel_rfl) BD.out (fun hHeld => ?_))
      generalize w5.drew = wd at *
      clear Q1 Q2 l1 l2 htb hfI hfO HEq
      generalize encL (I.map encI) = eI at *
      generalize encL (O.map encI) = eO at *
      refine wpAnyG_pure 0 (v := ?_) (fun _ => trivial) (by simp only [List.getElem?_toArray, List.getElem?_cons_succ, List.getElem?_cons_zero]; rfl) (by kernel_rfl) (fun _ _ _ _ _ h => h) ⟨(by rfl), (by intro c h; cases h), ?_⟩ hHeld ?_
      rotate_left
      focus (intro wS hSw; (try replace hSw := HSF.out wS hSw); (try dsimp only at hSw); go_simp; (try with_reducible rfl))
      (try simp only [Act.put, List.setIfInBounds_toArray, List.set_cons_zero, List.set_cons_succ])
      refine wpAnyG_pure 1 (v := ?_) (fun _ => trivial) (by simp only [List.getElem?_toArray, List.getElem?_cons_succ, List.getElem?_cons_zero]; rfl) (by kernel_rfl) (fun _ _ _ _ _ h => h) ⟨(by rfl), (by intro c h; cases h), ?_⟩ hHeld ?_
      rotate_left
      focus (intro wS hSw; (try replace hSw := HSF.out wS hSw); (try dsimp only at hSw); go_simp; (try with_reducible rfl))
      (try simp only [Act.put, List.setIfInBounds_toArray, List.set_cons_zero, List.set_cons_succ])
      refine wpAnyG_take 2 (v := ?_) (fun _ => trivial) (by simp only [List.getElem?_toArray, List.getElem?_cons_succ, List.getElem?_cons_zero]; rfl) (by kernel_rfl) (fun _ _ _ _ _ h => h) ⟨(by rfl), (by intro c h; cases h), ?_⟩ hHeld ?_
      rotate_left
      focus (intro wS hSw; (try replace hSw := HSF.out wS hSw); (try dsimp only at hSw); go_simp; (try with_reducible rfl))
      (try simp only [Act.put, List.setIfInBounds_toArray, List.set_cons_zero, List.set_cons_succ])
      refine wpAnyG_pure 4 (v := ?_) (fun _ => trivial) (by simp only [List.getElem?_toArray, List.getElem?_cons_succ, List.getElem?_cons_zero]; rfl) (by kernel_rfl) (fun _ _ _ _ _ h => h) ⟨(by rfl), (by intro c h; cases h), ?_⟩ hHeld ?_
      rotate_left
      focus (intro wS hSw; (try replace hSw := HSF.out wS hSw); (try dsimp only at hSw); go_simp; (try with_reducible rfl))
      (try simp only [Act.put, List.setIfInBounds_toArray, List.set_cons_zero, List.set_cons_succ])
      refine wpAnyG_take 5 (v := ?_) (fun _ => trivial) (by simp only [List.getElem?_toArray, List.getElem?_cons_succ, List.getElem?_cons_zero]; rfl) (by kernel_rfl) (fun _ _ _ _ _ h => h) ⟨(by rfl), (by intro c h; cases h), ?_⟩ hHeld ?_
      rotate_left
      focus (intro wS hSw; (try replace hSw := HSF.out wS hSw); (try dsimp only at hSw); go_simp; (try with_reducible rfl))
      (try simp only [Act.put, List.setIfInBounds_toArray, List.set_cons_zero, List.set_cons_succ])
      refine wpAnyS_ready [3] (by kernel_rfl) (by simp) (AllReadyS.consG (by simp only [List.getElem?_toArray, List.getElem?_cons_succ, List.getElem?_cons_zero]; rfl) (by rfl) (fun K hK => ?_) AllReadyS.nil)
      refine callS (by intro c h; cases h) (by go_simp; try with_reducible rfl) (HC1.out _ BD.out) ?_
      intro wa hBq
      have Ba := hid (BD.out.trans (hBq.mono BD.out.size))
      refine hK.out _ _ Ba.out ?_
      (try simp only [Act.put, List.setIfInBounds_toArray, List.set_cons_zero, List.set_cons_succ])
      clear hK K hBq
      clear hHeld
      have hHeld := Ba.out
      refine wpAnyS_ready [6] (by kernel_rfl) (by simp) (AllReadyS.consG (by simp only [List.getElem?_toArray, List.getElem?_cons_succ, List.getElem?_cons_zero]; rfl) (by rfl) (fun K hK => ?_) AllReadyS.nil)
      refine callS (by intro c h; cases h) (by go_simp; try with_reducible rfl) (HC2.out _ Ba.out) ?_
      intro w6 hBq
      have hG := hid (Ba.out.trans (hBq.mono Ba.out.size))
      refine hK.out _ _ hG.out ?_
      (try simp only [Act.put, List.setIfInBounds_toArray, List.set_cons_zero, List.set_cons_succ])
      clear hK K hBq
      clear hHeld
      have hHeld := hG.out
      refine wpAnyG_pure 7 (v := ?_) (fun _ => trivial) (by simp only [List.getElem?_toArray, List.getElem?_cons_succ, List.getElem?_cons_zero]; rfl) (by kernel_rfl) (fun _ _ _ _ _ h => h) ⟨(by rfl), (by intro c h; cases h), ?_⟩ hHeld ?_
      rotate_left
      focus (intro wS hSw; (try replace hSw := HSF.out wS hSw); (try dsimp only at hSw); go_simp; (try with_reducible rfl))
      (try simp only [Act.put, List.setIfInBounds_toArray, List.set_cons_zero, List.set_cons_succ])
      refine wpAnyG_pure 8 (v := ?_) (fun _ => trivial) (by simp only [List.getElem?_toArray, List.getElem?_cons_succ, List.getElem?_cons_zero]; rfl) (by kernel_rfl) (fun _ _ _ _ _ h => h) ⟨(by rfl), (by intro c h; cases h), ?_⟩ hHeld ?_
      rotate_left
      focus (intro wS hSw; (try replace hSw := HSF.out wS hSw); (try dsimp only at hSw); go_simp; (try with_reducible rfl))
      (try simp only [Act.put, List.setIfInBounds_toArray, List.set_cons_zero, List.set_cons_succ])
      refine wpAnyG_pure 9 (v := ?_) (fun _ => trivial) (by simp only [List.getElem?_toArray, List.getElem?_cons_succ, List.getElem?_cons_zero]; rfl) (by kernel_rfl) (fun _ _ _ _ _ h => h) ⟨(by rfl), (by intro c h; cases h), ?_⟩ hHeld ?_
      rotate_left
      focus (intro wS hSw; (try replace hSw := HSF.out wS hSw); (try dsimp only at hSw); go_simp; (try with_reducible rfl))
      (try simp only [Act.put, List.setIfInBounds_toArray, List.set_cons_zero, List.set_cons_succ])
      refine wpAnyS_done (by kernel_rfl) ?_
      have HB6 := hid (HB5.out.trans (hG.out.mono HB5.out.size))
      clear hHeld HSF HC1 HC2 BD Ba hG
      go_wp2_with fail
      go_roundw
      case rel => exact ⟨k + 1, by omega, by go_num, by rw [heq.out], HB6.out⟩
      case measure => simp [intOf]; omega
    · obtain rfl : k = T.length := by omega
      rw [List.take_length]
      as_aux_lemma =>
        go_wp2_with fail
        go_ret
        exact ⟨ret_str (by unfold encNet; rw [HPRE.out]), HB1.out.trans (HB.out.mono HB1.out.size)⟩

end Go.Proofs.YteljfpcmpdpehaaGreatDoor
namespace Go.Proofs.YteljfpcmpdpehaaGreatDoor
open Go.RowKit Go.IntWalk Go.Shelf

theorem nums_ur (l : List UInt8) (bad : Bool) (hl : l.length ≤ 1000000000000) (hbad : bad = true → l = []) : ∃ (xs : List Int) (l' : List UInt8) (bad' : Bool), (∀ x ∈ xs, I64 x) ∧ xs.length ≤ l.length ∧ l'.length ≤ l.length ∧
    (∀ (b : Nat) (W : World), Rr W b l bad → Calls Tryz.prog 44 #[.pointer (some ⟨b, 0, none⟩)] W fun e w' => ∃ A c, e = .returned (.slice A xs.length c) ∧ xs.length ≤ c ∧ c ≤ maxLen ∧ OwnI w' W.heap.size (.slice A xs.length c) xs ∧ SlR w' w'.heap.size A xs ∧ Rr w' b l' bad' ∧ W.grownBy w' (some b)) ∧
    ((listL fI l = some (xs, l') ∧ bad' = bad) ∨ (listL fI l = none ∧ xs = [] ∧ l' = [] ∧ bad' = true)) := by
  cases hr : listL fI l with
  | none =>
    refine ⟨[], [], true, by simp, by simp, by simp, fun b W h => ?_, .inr ⟨rfl, rfl, rfl, rfl⟩⟩
    have := numsRr_any b l bad W h hbad hl
    rw [hr] at this
    refine this.mono ?_
    rintro e w' ⟨rfl, h1, h2⟩
    exact ⟨none, 0, rfl, by simp, by simp [maxLen], OwnI.nil _ _, SlR.nil, h1, h2⟩
  | some x =>
    obtain ⟨xs, l'⟩ := x
    have hbd := listI_bd hr
    have hb0 : bad = false := by
      cases bad with
      | false => rfl
      | true => rw [hbad rfl] at hr; simp [listL, numL, Lib.indexByte] at hr
    subst hb0
    refine ⟨xs, l', false, hbd.1, listI_len hr, hbd.2, fun b W h => ?_, .inl ⟨rfl, rfl⟩⟩
    have := numsRr_any b l false W h hbad hl
    rw [hr] at this
    refine this.mono ?_
    rintro e w' ⟨v, rfl, ho, h1, h2⟩
    obtain ⟨A, c, rfl, h3, h4, h5⟩ := ho.slr hbd.1
    exact ⟨A, c, rfl, h3, h4, ho, h5, h1, h2⟩
def rNs (s : RS) : List Int × RS := match listL fI s.1 with
  | some (xs, l) => (xs, l, s.2)
  | none => ([], [], true)
theorem rNs_ok {s : RS} (h : RSok s) : RSok (rNs s).2 := by
  intro hb
  unfold rNs at hb ⊢
  split at hb
  · rename_i v l hn
    have := h hb
    rw [this] at hn
    simp [listL, numL, Lib.indexByte] at hn
  · rename_i hn
    simp [hn]
theorem rNs_enc (xs : List Int) (h : ∀ x ∈ xs, I64 x) (hn : xs.length ≤ 1000000000000) (r : List UInt8) (b : Bool) : rNs (encL (xs.map encI) ++ r, b) = (xs, r, b) := by
  unfold rNs
  rw [listL_enc fI encI xs r hn (fun x hx r => intL_enc x (h x hx) r)]
theorem rNs_bd (s : RS) : (∀ x ∈ (rNs s).1, I64 x) ∧ (rNs s).1.length ≤ s.1.length ∧ (rNs s).2.1.length ≤ s.1.length := by
  unfold rNs
  cases hr : listL fI s.1 with
  | none => simp
  | some p =>
    obtain ⟨xs, l⟩ := p
    have := listI_bd hr
    exact ⟨this.1, listI_len hr, this.2⟩
theorem encL_ne (es : List (List UInt8)) : 0 < (encL es).length := by
  unfold encL
  simp only [List.length_append, List.length_cons, List.length_nil]
  omega
theorem rNs_lt (s : RS) (h : s.1 ≠ []) : (rNs s).2.1.length < s.1.length := by
  unfold rNs
  cases hr : listL fI s.1 with
  | none => simp only [List.length_nil]; exact List.length_pos_iff.2 h
  | some p =>
    obtain ⟨xs, l⟩ := p
    have e := listL_split (enc := encI) fI_split hr
    have e2 := congrArg List.length e
    rw [List.length_append] at e2
    have := encL_ne (xs.map encI)
    simp only
    omega
theorem rNs_split {s : RS} (h : (rNs s).2.2 = false) : s.2 = false ∧ s.1 = encL ((rNs s).1.map encI) ++ (rNs s).2.1 := by
  unfold rNs at h ⊢
  cases hr : listL fI s.1 with
  | none => rw [hr] at h; cases h
  | some p =>
    obtain ⟨xs, l⟩ := p
    rw [hr] at h
    exact ⟨h, listL_split (enc := encI) fI_split hr⟩
theorem rNsP_f (s : RS) (hok : RSok s) (hl : s.1.length ≤ 1000000000000) (b : Nat) (w0 W : World) (h : Rd W b s.1 s.2) (he : Env w0) (hb : w0.heap.size ≤ b) (hB : Below w0.heap.size w0 W) :
    Calls Tryz.prog 38 #[.pointer (some ⟨b, 0, none⟩)] W fun e w' => ∃ A c, e = .returned (.slice A (rNs s).1.length c) ∧ (rNs s).1.length ≤ c ∧ c ≤ maxLen ∧ OwnI w' W.heap.size (.slice A (rNs s).1.length c) (rNs s).1 ∧ SlR w' w'.heap.size A (rNs s).1 ∧ Rd w' b (rNs s).2.1 (rNs s).2.2 ∧ W.grownBy w' (some b) := by
  obtain ⟨xs, l', bad', _, _, _, hc, hr⟩ := nums_uni s.1 s.2 hl hok
  have e : rNs s = (xs, l', bad') := by
    unfold rNs
    rcases hr with ⟨h1, rfl⟩ | ⟨h1, rfl, rfl, rfl⟩
    · rw [h1]
    · rw [h1]
  rw [e]
  exact hc b w0 W h he hb hB
theorem rNsR_f (s : RS) (hok : RSok s) (hl : s.1.length ≤ 1000000000000) (b : Nat) (W : World) (h : Rr W b s.1 s.2) :
    Calls Tryz.prog 44 #[.pointer (some ⟨b, 0, none⟩)] W fun e w' => ∃ A c, e = .returned (.slice A (rNs s).1.length c) ∧ (rNs s).1.length ≤ c ∧ c ≤ maxLen ∧ OwnI w' W.heap.size (.slice A (rNs s).1.length c) (rNs s).1 ∧ SlR w' w'.heap.size A (rNs s).1 ∧ Rr w' b (rNs s).2.1 (rNs s).2.2 ∧ W.grownBy w' (some b) := by
  obtain ⟨xs, l', bad', _, _, _, hc, hr⟩ := nums_ur s.1 s.2 hl hok
  have e : rNs s = (xs, l', bad') := by
    unfold rNs
    rcases hr with ⟨h1, rfl⟩ | ⟨h1, rfl, rfl, rfl⟩
    · rw [h1]
    · rw [h1]
  rw [e]
  exact hc b W h
/-! ### A transition -/
def rTr (s : RS) : Tr × RS := (((rNs s).1, (rNs (rNs s).2).1), (rNs (rNs s).2).2)
theorem rTr_ok {s : RS} (h : RSok s) : RSok (rTr s).2 := rNs_ok (rNs_ok h)
theorem rTr_lt (s : RS) (h : s.1 ≠ []) : (rTr s).2.1.length < s.1.length := Nat.lt_of_le_of_lt (rNs_bd (rNs s).2).2.2 (rNs_lt s h)
theorem rTr_split {s : RS} (h : (rTr s).2.2 = false) : s.2 = false ∧ s.1 = encTr (rTr s).1 ++ (rTr s).2.1 := by
  unfold rTr at h ⊢
  simp only at h ⊢
  obtain ⟨h1, e1⟩ := rNs_split h
  obtain ⟨h2, e2⟩ := rNs_split h1
  refine ⟨h2, ?_⟩
  unfold encTr
  simp only
  rw [List.append_assoc, ← e1, ← e2]
theorem rTr_enc (t : Tr) (h : t.1.length ≤ 1000 ∧ t.2.length ≤ 1000 ∧ (∀ x ∈ t.1, I64 x) ∧ (∀ x ∈ t.2, I64 x)) (r : List UInt8) (b : Bool) : rTr (encTr t ++ r, b) = (t, r, b) := by
  unfold rTr encTr
  rw [List.append_assoc, rNs_enc t.1 h.2.2.1 (by omega), rNs_enc t.2 h.2.2.2 (by omega)]
theorem encTr_ne (t : Tr) : encTr t ≠ [] := by
  unfold encTr
  intro h
  have h1 : (encL (t.1.map encI)).length + (encL (t.2.map encI)).length = 0 := by rw [← List.length_append, h]; rfl
  have := encL_ne (t.1.map encI)
  omega
/-! ### A net -/
/-- The number of places, that of transitions, the transitions, and the reader behind them. -/
def nP (s : List UInt8) : Int × RS := rI (s, false)
def nK (s : List UInt8) : Int × RS := rN (nP s).2
def nT (s : List UInt8) : List Tr × RS := rWhile rTr (nK s).1.toNat (nK s).2
def readNet (s : List UInt8) : Option Net :=
  if (nT s).2 = ([], false) ∧ ((nT s).1.length : Int) = (nK s).1 ∧ netOK ((nP s).1, (nT s).1) = true then some ((nP s).1, (nT s).1) else none
theorem readNet_enc {n : Int} {T : List Tr} (hok : netOK (n, T) = true) (hb : NetB n T) : readNet (encNet n T) = some (n, T) := by
  have hI : I64 (T.length : Int) := ⟨by have := hb.len; omega, by have := hb.len; omega⟩
  have e1 : nP (encNet n T) = (n, encI T.length ++ (T.map encTr).flatten, false) := by
    unfold nP encNet
    rw [List.append_assoc]
    exact rI_enc n hb.n _ _
  have e2 : nK (encNet n T) = ((T.length : Int), (T.map encTr).flatten, false) := by
    unfold nK
    rw [e1]
    exact rN_enc _ hI (by omega) _ _
  have e3 : nT (encNet n T) = (T, [], false) := by
    unfold nT
    rw [e2]
    have := rWhile_enc rTr encTr [] T (fun x _ => encTr_ne x) (fun x hx r b => rTr_enc x (hb.tr x hx) r b)
    rw [List.append_nil] at this
    simpa using this
  unfold readNet
  rw [e3, e2, e1]
  simp [hok]
theorem readNet_some {s : List UInt8} {n : Int} {T : List Tr} (h : readNet s = some (n, T)) : netOK (n, T) = true ∧ encNet n T = s := by
  unfold readNet at h
  split at h
  · rename_i hc
    obtain ⟨h1, h2, h3⟩ := hc
    simp only [Option.some.injEq, Prod.mk.injEq] at h
    obtain ⟨e1, e2⟩ := h
    rw [e1, e2] at h3
    refine ⟨h3, ?_⟩
    have c1 : (nT s).2.2 = false := by rw [h1]
    obtain ⟨c2, f3⟩ := rWhile_split (enc := encTr) (fun s h => rTr_split h) _ _ c1
    obtain ⟨c3, f2⟩ := rN_split c2
    obtain ⟨_, f1⟩ := rI_split c3
    have f3' : (nK s).2.1 = ((nT s).1.map encTr).flatten := by
      have : (nK s).2.1 = ((nT s).1.map encTr).flatten ++ (nT s).2.1 := f3
      rw [h1] at this
      simpa using this
    have f2' : (nP s).2.1 = encI (nK s).1 ++ (nK s).2.1 := f2
    have f1' : s = encI (nP s).1 ++ (nP s).2.1 := f1
    unfold encNet
    rw [← e1, ← e2, h2, ← f3', List.append_assoc, ← f2', ← f1']
  · cases h
end Go.Proofs.YteljfpcmpdpehaaGreatDoor
namespace Go.Proofs.YteljfpcmpdpehaaGreatDoor
open Go.RowKit Go.IntWalk Go.Shelf

def tdRK : RK (Hd × Hd) where
  e := 47
  t := 22
  size := 2
  bytes := 48
  z := .agg #[.slice none 0 0, .slice none 0 0]
  cs x := [.slice x.1.A x.1.n x.1.c, .slice x.2.A x.2.n x.2.c]
  ok x := True
  und := Tryz.underlying22
  info := by kernel_rfl
  zcs := rfl
  pos := by omega
  small := by omega
  len _ := rfl
  one x v hv := by simp at hv; rcases hv with rfl | rfl <;> rfl
  rsz := rfl
  rep w B x h := ⟨[.slice x.1.A x.1.n x.1.c], [.slice x.2.A x.2.n x.2.c], rfl, rfl, rfl, rfl, rfl⟩
  inv w B c x h := by obtain ⟨c1, c2, rfl, _, _, h1, h2⟩ := h; exact ⟨by rw [show c1 = _ from h1, show c2 = _ from h2]; rfl, trivial⟩
/-- What a transition's two headers hold. -/
def LieT (w : World) (base : Nat) (h : Hd × Hd) (t : Tr) : Prop :=
  (h.1.n = t.1.length ∧ OwnI w base (.slice h.1.A t.1.length h.1.c) t.1 ∧ ∀ x ∈ t.1, I64 x) ∧ (h.2.n = t.2.length ∧ OwnI w base (.slice h.2.A t.2.length h.2.c) t.2 ∧ ∀ x ∈ t.2, I64 x)
abbrev tsT : List TypeId := [3, 47]
theorem LieT.kt {w w' : World} {base : Nat} {h : Hd × Hd} {t : Tr} (hl : LieT w base h t) (hk : KT tsT w w') : LieT w' base h t :=
  ⟨⟨hl.1.1, own_kt hl.1.2.1 hk (by simp [tsT]), hl.1.2.2⟩, hl.2.1, own_kt hl.2.2.1 hk (by simp [tsT]), hl.2.2.2⟩
theorem LieT.kt1 {w w' : World} {base : Nat} {h : Hd × Hd} {t : Tr} (hl : LieT w base h t) (hk : KT [3] w w') : LieT w' base h t :=
  ⟨⟨hl.1.1, own_kt hl.1.2.1 hk (by simp), hl.1.2.2⟩, hl.2.1, own_kt hl.2.2.1 hk (by simp), hl.2.2.2⟩
/-- A row of transitions. -/
structure Tw (w : World) (base : Nat) (v : Value) (T : List Tr) : Prop where
  ex : ∃ (H : List (Hd × Hd)) (A : Option Addr) (c : Nat), v = .slice A T.length c ∧ H.length = T.length ∧ tdRK.Own w base (.slice A T.length c) H ∧ ∀ k (h1 : k < H.length) (h2 : k < T.length), LieT w base H[k] T[k]
theorem Tw.nil {w : World} {base : Nat} : Tw w base (.slice none 0 0) [] := ⟨[], none, 0, rfl, rfl, RK.Own.nil, fun k h => absurd h (by simp)⟩
theorem Tw.kt {w w' : World} {base : Nat} {v : Value} {T : List Tr} (h : Tw w base v T) (hk : KT tsT w w') : Tw w' base v T := by
  obtain ⟨H, A, c, e, h1, h2, h3⟩ := h.ex
  exact ⟨H, A, c, e, h1, own_kt h2 hk (by decide), fun k g1 g2 => (h3 k g1 g2).kt hk⟩
theorem Tw.below {w w' : World} {base : Nat} {v : Value} {T : List Tr} (h : Tw w base v T) (hB : Below w.heap.size w w') : Tw w' base v T := h.kt (KT.of_below hB)
/-- A reader reads on: the row stays. -/
theorem Tw.reader {w w' : World} {base b : Nat} {v : Value} {T : List Tr} {ty : TypeId} {cs : Array Value} (h : Tw w base v T) (hg : w.grownBy w' (some b)) (hb : Blk w b ty cs) (hty : ty ∉ tsT) : Tw w' base v T :=
  h.kt (KT.of_grown hg (fun g e => by injection e with e; subst e; exact ⟨ty, cs, hb, hty⟩))
/-- A transition's box of its own is written to: the row stays. -/
theorem Tw.far {w : World} {base g i : Nat} {v : Value} {T : List Tr} {cs : Array Value} (h : Tw w base v T) (hb : Blk w g 47 cs) (hne : ∀ q, v.ownBlock = some q → q ≠ g) (u : Value) : Tw (w.setCell ⟨g, i, none⟩ u) base v T := by
  obtain ⟨H, A, c, e, h1, h2, h3⟩ := h.ex
  subst e
  exact ⟨H, A, c, rfl, h1, own_kept h2 (fun q cs' hq hB => hB.far (hne q hq) u), fun k g1 g2 => (h3 k g1 g2).kt1 (KT.of_set hb (by decide) u)⟩
theorem Tw.lt {w : World} {base : Nat} {v : Value} {T : List Tr} (h : Tw w base v T) : ∀ q, v.ownBlock = some q → q < w.heap.size := by
  obtain ⟨H, A, c, e, h1, h2, h3⟩ := h.ex
  subst e
  exact fun q hq => by obtain ⟨_, cs, hB⟩ := own_blk h2 q hq; exact hB.lt
theorem Tw.slr {w : World} {base : Nat} {v : Value} {T : List Tr} (h : Tw w base v T) : ∃ A c, v = .slice A T.length c ∧ T.length ≤ c ∧ c ≤ maxLen ∧ SlR w w.heap.size A T := by
  obtain ⟨H, A, c, e, h1, h2, h3⟩ := h.ex
  obtain ⟨A', c', e', k1, k2, k3⟩ := h2.slr (fun _ _ => trivial)
  rw [← h1] at e'
  injection e' with e1 _ e2
  subst e1 e2
  refine ⟨A, c, e, by omega, k2, fun k t ht => ?_⟩
  obtain ⟨hk, rfl⟩ := List.getElem?_eq_some_iff.1 ht
  have hk1 : k < H.length := by omega
  obtain ⟨⟨n1, o1, i1⟩, n2, o2, i2⟩ := h3 k hk1 hk
  obtain ⟨b, off, es, hA, hb, hsz, hc, hr⟩ := k3 k _ (List.getElem?_eq_getElem hk1)
  obtain ⟨c1, c2, rfl, z1, z2, r1, r2⟩ := hr
  obtain ⟨A9, c9, e9, g1, g2, g3⟩ := o1.slr i1
  obtain ⟨A8, c8, e8, f1, f2, f3⟩ := o2.slr i2
  injection e9 with x1 _ x3
  injection e8 with y1 _ y3
  refine ⟨b, off, c1 ++ c2, hA, hb, hsz, hc, c1, c2, rfl, z1, z2, ⟨A9, c9, ?_, g1, g2, g3⟩, A8, c8, ?_, f1, f2, f3⟩
  · rw [← x1, ← x3, ← n1]; exact r1
  · rw [← y1, ← y3, ← n2]; exact r2
/-- One more. -/
theorem Tw.push {w w' : World} {base : Nat} {H : List (Hd × Hd)} {T : List Tr} {t : Tr} {h : Hd × Hd} {A' : Option Addr} {c' : Nat} (hH : H.length = T.length) (hl : ∀ k (h1 : k < H.length) (h2 : k < T.length), LieT w base H[k] T[k]) (ht : LieT w base h t) (hk : ∀ h t, LieT w base h t → LieT w' base h t)
    (ho : tdRK.Own w' base (.slice A' (H ++ [h]).length c') (H ++ [h])) : Tw w' base (.slice A' (T.length + 1) c') (T ++ [t]) := by
  refine ⟨H ++ [h], A', c', by rw [List.length_append, List.length_singleton], by rw [List.length_append, List.length_append, hH]; rfl, ?_, fun k g1 g2 => ?_⟩
  · have : (T ++ [t]).length = (H ++ [h]).length := by rw [List.length_append, List.length_append, hH]; rfl
    rw [this]; exact ho
  · rw [List.length_append, List.length_singleton] at g1 g2
    by_cases hlt : k < H.length
    · rw [List.getElem_append_left hlt, List.getElem_append_left (by omega)]
      exact hk _ _ (hl k hlt (by omega))
    · rw [List.getElem_append_right (by omega), List.getElem_append_right (by omega)]
      simp only [List.getElem_singleton]
      exact hk _ _ ht
/-- A net that was read, or none. -/
def RetNet (w : World) (r : Option Net) (e : Ending) (w' : World) : Prop :=
  match r with
  | some (n, T) => ∃ A c, e = .returned (.tuple #[.agg #[.int .i64 n, .slice A T.length c], .bool true]) ∧ SlR w' w'.heap.size A T ∧ T.length ≤ maxLen ∧ Below w.heap.size w w'
  | none => e = .returned (.tuple #[.agg #[.int .i64 0, .slice none 0 0], .bool false]) ∧ Below w.heap.size w w'
end Go.Proofs.YteljfpcmpdpehaaGreatDoor
namespace Go.Proofs.YteljfpcmpdpehaaGreatDoor
open Go.RowKit Go.IntWalk Go.Shelf

/-- The world while the reference reads a net. -/
structure SN (w : World) (b gN : Nat) (p : Int) (v : Value) (O : List Tr) (st : RS) (wx : World) : Prop where
  below : Below w.heap.size w wx
  r : Blk wx w.heap.size 24 #[.int .i64 0, .slice none 0 0]
  rd : Rr wx b st.1 st.2
  net : Blk wx gN 24 #[.int .i64 p, v]
  row : Tw wx (gN + 1) v O
  hb : w.heap.size < b
  hN : b < gN
theorem SN.step {w wx wy : World} {b gN : Nat} {p : Int} {v : Value} {O : List Tr} {st : RS} (h : SN w b gN p v O st wx) (hB : Below wx.heap.size wx wy) : SN w b gN p v O st wy :=
  ⟨h.below.trans (hB.mono h.below.size), h.r.below hB h.r.lt, Blk.below h.rd hB h.rd.lt, h.net.below hB h.net.lt, h.row.below hB, h.hb, h.hN⟩
theorem SN.read {w wx wy : World} {b gN : Nat} {p : Int} {v : Value} {O : List Tr} {st st' : RS} (h : SN w b gN p v O st wx) (hg : wx.grownBy wy (some b)) (hr : Rr wy b st'.1 st'.2) : SN w b gN p v O st' wy := by
  have h1 := h.hb
  have h2 := h.hN
  exact ⟨bg h.below hg (by omega), Blk.grown h.r hg (fun e => by injection e with e; omega), hr, Blk.grown h.net hg (fun e => by injection e with e; omega), h.row.reader hg h.rd (by decide), h1, h2⟩
set_option maxRecDepth 100000 in
set_option maxHeartbeats 8000000 in
theorem rread_p (s : ByteArray) (w : World) (hs : s.size ≤ 90000) :
    Calls Tryz.prog 7 #[.string s] w (RetNet w (readNet s.data.toList)) := by
  have hsl := hid (size_list s)
  have hl0 : s.data.toList.length ≤ 90000 := by rw [← size_list]; exact hs
  obtain ⟨l0, hl0e⟩ : ∃ l0, l0 = s.data.toList := ⟨_, rfl⟩
  have HO := openR_any s
  rw [← hl0e] at hl0 HO ⊢
  have HRN : Hid (∃ p s1 kk s2, nP l0 = (p, s1) ∧ nK l0 = (kk, s2)) := ⟨_, _, _, _, rfl, rfl⟩
  obtain ⟨p, s1, kk, s2, hP, hK⟩ := HRN.out
  have cI := fun b W (h : Rr W b l0 false) => rrInt_f (l0, false) (by simp only; omega) b W h
  have eP : rI (l0, false) = (p, s1) := hP
  rw [eP] at cI
  have hl1 := rI_le (l0, false)
  have ok1 : RSok s1 := by have := rI_ok (s := (l0, false)) (fun h => by cases h); rwa [eP] at this
  rw [eP] at hl1
  have eK : rN s1 = (kk, s2) := by have := hK; unfold nK at this; rw [hP] at this; exact this
  have cN := fun b W (h : Rr W b s1.1 s1.2) => rrNum_f s1 (by simp only at hl1; omega) b W h
  rw [eK] at cN
  have hl2 := rN_le s1
  have ok2 := rN_ok ok1
  have hkb := rN_bd s1
  rw [eK] at hl2 ok2 hkb
  obtain ⟨K, rfl⟩ := Int.eq_ofNat_of_zero_le hkb.1
  have hT : nT l0 = rWhile rTr K s2 := by unfold nT; rw [hK]; rfl
  have hRd := hid (show readNet l0 = if (nT l0).2 = ([], false) ∧ ((nT l0).1.length : Int) = (K : Int) ∧ netOK (p, (nT l0).1) = true then some (p, (nT l0).1) else none by
    unfold readNet; rw [hK, hP])
  rw [hT] at hRd
  have HT2 := hid hT
  have CI := hid cI
  have CN := hid cN
  have OK2 := hid ok2
  have hl2' : s2.1.length ≤ 90000 := by simp only at hl1 hl2; omega
  have HKB : (K : Int) ≤ 9223372036854775807 := by have := hkb.2.2; omega
  clear HRN hP hK eP eK hl1 hl2 ok1 ok2 hkb hT cI cN hl0e
  have b0 := hid (Blk.new w 24 #[.int .i64 0, .slice none 0 0])
  have hb0 : Below w.heap.size w (w.alloc (Obj.cells #[.int .i64 0, .slice none 0 0] 24)) := by (repeat (first | exact Below.refl _ _ | assumption | refine below_drewN ?_ _ | refine Below.drew ?_ | refine Below.alloc ?_ (by (try simp); (try omega)) _ | refine Below.setCell ?_ (by (try simp); (try omega)) _))
  go_enter Tryz.func7, Tryz.ntmps7
  go_wp2_with fail
  refine (HO _).mono ?_
  rintro e w1 ⟨rfl, hR, hB⟩
  have hB1 := hid (hb0.trans (hB.mono hb0.size))
  have r1 := hid (b0.out.below hB b0.out.lt)
  have hz1 := hR.lt
  clear hB b0 hb0 HO
  generalize hbq : (w.alloc (Obj.cells #[.int .i64 0, .slice none 0 0] 24)).heap.size = b at *
  have hwb : w.heap.size < b := by rw [← hbq]; simp
  clear hbq
  go_wp2_with fail
  refine (CI.out _ _ hR).mono ?_
  rintro e w2 ⟨rfl, hR2, hg⟩
  have hB2 := hid (bg hB1.out hg (by omega))
  have r2 := hid (Blk.grown r1.out hg (fun e => by injection e with e; omega))
  have hz2 := hR2.lt
  have S2 := hid (show SN w b w2.heap.size p (.slice none 0 0) [] s1 (w2.alloc (Obj.cells #[.int .i64 p, .slice none 0 0] 24)) from ⟨hB2.out.alloc hB2.out.size _, r2.out.alloc _, Blk.alloc hR2 _, Blk.new _ _ _, Tw.nil, hwb, hz2⟩)
  clear hR hB1 hg CI hz1 r1 hR2 hB2 r2
  go_upto_region 3 with fail
  generalize w2.heap.size = gN at *
  generalize (w2.alloc (Obj.cells #[.int .i64 p, .slice none 0 0] 24)) = w3 at *
  go_wp2_with fail
  refine (CN.out _ _ S2.out.rd).mono ?_
  rintro e w4 ⟨rfl, hR4, hg⟩
  have S4 := hid (S2.out.read (st' := s2) hg hR4)
  clear hR4 hg CN S2 hz2
  go_upto_region 5 with fail
  go_loopw [7] (fun iv wr => ∃ (j m : Nat) (O : List Tr) (st : RS) (v : Value), j + m = K ∧ iv = .int .i64 j ∧ SN w b gN p v O st wr ∧ RSok st ∧ O.length + st.1.length ≤ 90000 ∧ O.length = j ∧ Hid (rWhile rTr K s2 = (O ++ (rWhile rTr m st).1, (rWhile rTr m st).2))) (fun iv _ => K - (intOf iv).toNat)
  case atStart => exact ⟨0, K, [], s2, .slice none 0 0, by omega, rfl, S4.out, OK2.out, by simpa using hl2', rfl, by simp [Hid]⟩
  case round =>
    clear S4
    obtain ⟨j, m, O, st, v, hjm, rfl, hS, hst, hsz, hOl, hrm⟩ := hrel
    have HS := hid hS
    have HST := hid hst
    obtain ⟨Ao, co, rfl, hoc, hom, hos⟩ := hS.row.slr
    clear hS hst hos
    by_cases hmore : 0 < m ∧ st.1 ≠ []
    case neg =>
      have hfin := hid (show rWhile rTr K s2 = (O, st) by
        have h0 : rWhile rTr m st = ([], st) := by
          by_cases hm : m = 0
          · subst hm; rfl
          · exact rWhile_nil _ _ _ (Classical.not_not.1 fun h => hmore ⟨by omega, h⟩)
        rw [hrm.out, h0]; simp)
      have hoL := hid (show O.length ≤ maxLen by unfold maxLen; omega)
      by_cases hm : m = 0
      · have hjK : ¬ (j : Int) < (K : Int) := by omega
        clear hmore hrm hm hjm hOl hsz
        as_aux_lemma =>
          go_wp2_with fail
          refine (doneR_any b st.1 st.2 wr HS.out.rd).mono ?_
          cases hdn : (!st.2 && st.1.isEmpty) with
          | false =>
            have hr := hid (show readNet l0 = none by
              rw [hRd.out, hfin.out, if_neg]
              rintro ⟨h, -⟩
              simp only at h
              rw [h] at hdn
              simp at hdn)
            rintro e w9 ⟨rfl, hB9⟩
            have S9 := hid (HS.out.step hB9)
            clear hB9 HS hdn
            have r0 := S9.out.r.cell 0; have r1 := S9.out.r.cell 1; have fr0 := S9.out.r.frozen 0; have fr1 := S9.out.r.frozen 1; have lR := S9.out.r.lt
            simp at r0 r1
            go_wp2_with fail
            refine bodyPost_ret (v := .tuple #[.agg #[.int .i64 0, .slice none 0 0], .bool false]) (by simp [results, Tryz.results7, go_sem, r0, r1, fr0, fr1, lR]) rfl ?_
            rw [hr.out]
            exact ⟨rfl, (S9.out.below.setCell (Nat.le_refl _) _).setCell (Nat.le_refl _) _⟩
          | true =>
            have hst0 := hid (show st = ([], false) by
              obtain ⟨a, c⟩ := st
              cases c <;> cases a <;> simp at hdn ⊢)
            rintro e w9 ⟨rfl, hB9⟩
            have S9 := hid (HS.out.step hB9)
            clear hB9 HS hdn
            have n0 := S9.out.net.cell 0; have n1 := S9.out.net.cell 1; have nz := S9.out.net.lt
            simp at n0 n1
            by_cases hlen : O.length = K
            · subst hlen
              obtain ⟨A9, c9, ev, _, _, hs9⟩ := S9.out.row.slr
              injection ev with e1 _ e2
              subst e1 e2
              have HRt := hid (right_r p Ao co O w9 hoL.out hs9)
              have hfin2 := hid (show readNet l0 = if netOK (p, O) = true then some (p, O) else none by
                rw [hRd.out, hfin.out, hst0.out]; simp)
              clear hs9
              cases hok : netOK (p, O) with
              | false =>
                have hr := hid (show readNet l0 = none by rw [hfin2.out, hok]; rfl)
                rw [hok] at HRt
                clear hok
                as_aux_lemma =>
                  go_wp2_with fail
                  refine HRt.out.mono ?_
                  rintro e w8 ⟨rfl, hB8⟩
                  have S8 := hid (S9.out.step hB8)
                  clear hB8 n0 n1 nz S9 HRt
                  have r0 := S8.out.r.cell 0; have r1 := S8.out.r.cell 1; have fr0 := S8.out.r.frozen 0; have fr1 := S8.out.r.frozen 1; have lR := S8.out.r.lt
                  simp at r0 r1
                  go_wp2_with fail
                  refine bodyPost_ret (v := .tuple #[.agg #[.int .i64 0, .slice none 0 0], .bool false]) (by simp [results, Tryz.results7, go_sem, r0, r1, fr0, fr1, lR]) rfl ?_
                  rw [hr.out]
                  exact ⟨rfl, (S8.out.below.setCell (Nat.le_refl _) _).setCell (Nat.le_refl _) _⟩
              | true =>
                have hr := hid (show readNet l0 = some (p, O) by rw [hfin2.out, hok]; rfl)
                rw [hok] at HRt
                clear hok
                as_aux_lemma =>
                  go_wp2_with fail
                  refine HRt.out.mono ?_
                  rintro e w8 ⟨rfl, hB8⟩
                  have S8 := hid (S9.out.step hB8)
                  clear hB8 n0 n1 nz S9 HRt
                  have n0 := S8.out.net.cell 0; have n1 := S8.out.net.cell 1; have nz := S8.out.net.lt
                  have r0 := S8.out.r.cell 0; have r1 := S8.out.r.cell 1; have fr0 := S8.out.r.frozen 0; have fr1 := S8.out.r.frozen 1; have lR := S8.out.r.lt
                  simp at r0 r1 n0 n1
                  obtain ⟨A8, c8, ev, _, _, hs8⟩ := (S8.out.row.kt ((KT.of_set (ts := tsT) S8.out.r (i := 0) (by decide) (.int .i64 p)).trans (KT.of_set (ts := tsT) (S8.out.r.set_ 0 (.int .i64 p)) (i := 1) (by decide) (.slice Ao O.length co)))).slr
                  injection ev with e1 _ e2
                  subst e1 e2
                  have HS8 := hid hs8
                  clear hs8
                  go_wp2_with fail
                  refine bodyPost_ret (v := .tuple #[.agg #[.int .i64 p, .slice Ao O.length co], .bool true]) (by simp [results, Tryz.results7, go_sem, r0, r1, fr0, fr1, lR]) rfl ?_
                  rw [hr.out]
                  exact ⟨Ao, co, rfl, HS8.out, hoL.out, (S8.out.below.setCell (Nat.le_refl _) _).setCell (Nat.le_refl _) _⟩
            · have hr := hid (show readNet l0 = none by
                rw [hRd.out, hfin.out, if_neg]
                rintro ⟨-, h, -⟩
                simp only at h
                omega)
              as_aux_lemma =>
                have r0 := S9.out.r.cell 0; have r1 := S9.out.r.cell 1; have fr0 := S9.out.r.frozen 0; have fr1 := S9.out.r.frozen 1; have lR := S9.out.r.lt
                simp at r0 r1
                go_wp2_with fail
                refine bodyPost_ret (v := .tuple #[.agg #[.int .i64 0, .slice none 0 0], .bool false]) (by simp [results, Tryz.results7, go_sem, r0, r1, fr0, fr1, lR]) rfl ?_
                rw [hr.out]
                exact ⟨rfl, (S9.out.below.setCell (Nat.le_refl _) _).setCell (Nat.le_refl _) _⟩
      · have hjK : (j : Int) < (K : Int) := by omega
        have hnil : st.1 = [] := Classical.not_not.1 fun h => hmore ⟨by omega, h⟩
        have hln : ¬ (0 : Int) < (st.1.length : Int) := by rw [hnil]; simp
        have HNIL := hid hnil
        clear hmore hrm hm hjm hOl hsz hnil
        as_aux_lemma =>
          go_wp2_with fail
          refine (leftR_any b st.1 st.2 wr HS.out.rd).mono ?_
          rintro e w0 ⟨rfl, hBl⟩
          have S0 := hid (HS.out.step hBl)
          clear hBl HS
          go_wp2_with fail
          refine (doneR_any b st.1 st.2 w0 S0.out.rd).mono ?_
          cases hdn : (!st.2 && st.1.isEmpty) with
          | false =>
            have hr := hid (show readNet l0 = none by
              rw [hRd.out, hfin.out, if_neg]
              rintro ⟨h, -⟩
              simp only at h
              rw [h] at hdn
              simp at hdn)
            rintro e w9 ⟨rfl, hB9⟩
            have S9 := hid (S0.out.step hB9)
            clear hB9 S0 hdn
            have r0 := S9.out.r.cell 0; have r1 := S9.out.r.cell 1; have fr0 := S9.out.r.frozen 0; have fr1 := S9.out.r.frozen 1; have lR := S9.out.r.lt
            simp at r0 r1
            go_wp2_with fail
            refine bodyPost_ret (v := .tuple #[.agg #[.int .i64 0, .slice none 0 0], .bool false]) (by simp [results, Tryz.results7, go_sem, r0, r1, fr0, fr1, lR]) rfl ?_
            rw [hr.out]
            exact ⟨rfl, (S9.out.below.setCell (Nat.le_refl _) _).setCell (Nat.le_refl _) _⟩
          | true =>
            have hst0 := hid (show st = ([], false) by
              obtain ⟨a, c⟩ := st
              cases c <;> cases a <;> simp at hdn ⊢)
            rintro e w9 ⟨rfl, hB9⟩
            have S9 := hid (S0.out.step hB9)
            clear hB9 S0 hdn
            have n0 := S9.out.net.cell 0; have n1 := S9.out.net.cell 1; have nz := S9.out.net.lt
            simp at n0 n1
            by_cases hlen : O.length = K
            · subst hlen
              obtain ⟨A9, c9, ev, _, _, hs9⟩ := S9.out.row.slr
              injection ev with e1 _ e2
              subst e1 e2
              have HRt := hid (right_r p Ao co O w9 hoL.out hs9)
              have hfin2 := hid (show readNet l0 = if netOK (p, O) = true then some (p, O) else none by
                rw [hRd.out, hfin.out, hst0.out]; simp)
              clear hs9
              cases hok : netOK (p, O) with
              | false =>
                have hr := hid (show readNet l0 = none by rw [hfin2.out, hok]; rfl)
                rw [hok] at HRt
                clear hok
                as_aux_lemma =>
                  go_wp2_with fail
                  refine HRt.out.mono ?_
                  rintro e w8 ⟨rfl, hB8⟩
                  have S8 := hid (S9.out.step hB8)
                  clear hB8 n0 n1 nz S9 HRt
                  have r0 := S8.out.r.cell 0; have r1 := S8.out.r.cell 1; have fr0 := S8.out.r.frozen 0; have fr1 := S8.out.r.frozen 1; have lR := S8.out.r.lt
                  simp at r0 r1
                  go_wp2_with fail
                  refine bodyPost_ret (v := .tuple #[.agg #[.int .i64 0, .slice none 0 0], .bool false]) (by simp [results, Tryz.results7, go_sem, r0, r1, fr0, fr1, lR]) rfl ?_
                  rw [hr.out]
                  exact ⟨rfl, (S8.out.below.setCell (Nat.le_refl _) _).setCell (Nat.le_refl _) _⟩
              | true =>
                have hr := hid (show readNet l0 = some (p, O) by rw [hfin2.out, hok]; rfl)
                rw [hok] at HRt
                clear hok
                as_aux_lemma =>
                  go_wp2_with fail
                  refine HRt.out.mono ?_
                  rintro e w8 ⟨rfl, hB8⟩
                  have S8 := hid (S9.out.step hB8)
                  clear hB8 n0 n1 nz S9 HRt
                  have n0 := S8.out.net.cell 0; have n1 := S8.out.net.cell 1; have nz := S8.out.net.lt
                  have r0 := S8.out.r.cell 0; have r1 := S8.out.r.cell 1; have fr0 := S8.out.r.frozen 0; have fr1 := S8.out.r.frozen 1; have lR := S8.out.r.lt
                  simp at r0 r1 n0 n1
                  obtain ⟨A8, c8, ev, _, _, hs8⟩ := (S8.out.row.kt ((KT.of_set (ts := tsT) S8.out.r (i := 0) (by decide) (.int .i64 p)).trans (KT.of_set (ts := tsT) (S8.out.r.set_ 0 (.int .i64 p)) (i := 1) (by decide) (.slice Ao O.length co)))).slr
                  injection ev with e1 _ e2
                  subst e1 e2
                  have HS8 := hid hs8
                  clear hs8
                  go_wp2_with fail
                  refine bodyPost_ret (v := .tuple #[.agg #[.int .i64 p, .slice Ao O.length co], .bool true]) (by simp [results, Tryz.results7, go_sem, r0, r1, fr0, fr1, lR]) rfl ?_
                  rw [hr.out]
                  exact ⟨Ao, co, rfl, HS8.out, hoL.out, (S8.out.below.setCell (Nat.le_refl _) _).setCell (Nat.le_refl _) _⟩
            · have hr := hid (show readNet l0 = none by
                rw [hRd.out, hfin.out, if_neg]
                rintro ⟨-, h, -⟩
                simp only at h
                omega)
              as_aux_lemma =>
                have r0 := S9.out.r.cell 0; have r1 := S9.out.r.cell 1; have fr0 := S9.out.r.frozen 0; have fr1 := S9.out.r.frozen 1; have lR := S9.out.r.lt
                simp at r0 r1
                go_wp2_with fail
                refine bodyPost_ret (v := .tuple #[.agg #[.int .i64 0, .slice none 0 0], .bool false]) (by simp [results, Tryz.results7, go_sem, r0, r1, fr0, fr1, lR]) rfl ?_
                rw [hr.out]
                exact ⟨rfl, (S9.out.below.setCell (Nat.le_refl _) _).setCell (Nat.le_refl _) _⟩
    case pos =>
    obtain ⟨hm, hnil⟩ := hmore
    obtain ⟨m, rfl⟩ : ∃ k, m = k + 1 := ⟨m - 1, by omega⟩
    have hjK : (j : Int) < (K : Int) := by omega
    have hln : (0 : Int) < (st.1.length : Int) := by have := List.length_pos_iff.2 hnil; omega
    have HNIL := hid hnil
    have HSZ := hid hsz
    have HOL := hid hOl
    clear hnil hsz hOl hm
    go_wp2_with fail
    refine (leftR_any b st.1 st.2 wr HS.out.rd).mono ?_
    rintro e w0 ⟨rfl, hBl⟩
    have S0 := hid (HS.out.step hBl)
    clear hBl HS
    go_wp2_with fail
    refine (rNsR_f st HST.out (by have := HSZ.out; omega) b w0 S0.out.rd).mono ?_
    rintro e w5 ⟨A1, c1, rfl, -, -, ho1, hi1, hR1, hg1⟩
    have S5 := hid (S0.out.read (st' := (rNs st).2) hg1 hR1)
    have LO1 := hid (show OwnI w5 (gN + 1) (.slice A1 (rNs st).1.length c1) (rNs st).1 from own_base ho1 (by have := S0.out.net.lt; omega))
    have hb1 := hid (rNs_bd st)
    have hb2 := hid (rNs_bd (rNs st).2)
    have hlt := hid (rTr_lt st HNIL.out)
    have hpair := hid (show rTr st = (((rNs st).1, (rNs (rNs st).2).1), (rNs (rNs st).2).2) from rfl)
    have hok2 := hid (rNs_ok HST.out)
    have hok3 := hid (rTr_ok HST.out)
    clear ho1 hi1 hR1 hg1 S0
    have hst1 : (rNs st).2.1.length ≤ 1000000000000 := by have h1 := hb1.out.2.2; have h2 := HSZ.out; omega
    have hrm2 := hid (show rWhile rTr K s2 = ((O ++ [(rTr st).1]) ++ (rWhile rTr m (rTr st).2).1, (rWhile rTr m (rTr st).2).2) by
      rw [hrm.out, show rWhile rTr (m + 1) st = if st.1 = [] then ([], st) else ((rTr st).1 :: (rWhile rTr m (rTr st).2).1, (rWhile rTr m (rTr st).2).2) from rfl, if_neg HNIL.out]
      simp)
    rw [hpair.out] at hrm2 hlt hok3
    clear hpair
    obtain ⟨l1, hl1e⟩ : ∃ l1, l1 = (rNs st).1 := ⟨_, rfl⟩
    obtain ⟨st1, hs1e⟩ : ∃ st1, st1 = (rNs st).2 := ⟨_, rfl⟩
    rw [← hl1e] at LO1 hb1 hrm2 ⊢
    rw [← hs1e] at S5 hb1 hb2 hrm2 hlt hok2 hok3 hst1
    clear hl1e hs1e
    have S6 := hid (S5.out.step ((Below.refl w5.heap.size w5).alloc (Nat.le_refl _) (Obj.cells #[.slice A1 l1.length c1, .slice none 0 0] 47)))
    have X6 := hid (Blk.new w5 47 #[.slice A1 l1.length c1, .slice none 0 0])
    have LO1b := hid (show OwnI (w5.alloc (Obj.cells #[.slice A1 l1.length c1, .slice none 0 0] 47)) (gN + 1) (.slice A1 l1.length c1) l1 from LO1.out.alloc _)
    have hbT := hid (show b < w5.heap.size from S5.out.rd.lt)
    have hNT := hid (show gN < w5.heap.size from S5.out.net.lt)
    have hwT := hid (show w.heap.size < w5.heap.size from S5.out.r.lt)
    have hqT := hid (S5.out.row.lt)
    go_upto_region 8 with fail
    clear LO1 S5
    generalize w5.heap.size = gT at *
    generalize (w5.alloc (Obj.cells #[.slice A1 l1.length c1, .slice none 0 0] 47)) = w6 at *
    go_wp2_with fail
    refine (rNsR_f st1 hok2.out hst1 b w6 S6.out.rd).mono ?_
    rintro e w7 ⟨A2, c2, rfl, -, -, ho2, hi2, hR2, hg2⟩
    have S7 := hid (S6.out.read (st' := (rNs st1).2) hg2 hR2)
    have X7 := hid (Blk.grown X6.out hg2 (fun e => by injection e with e; have := hbT.out; omega))
    have LO1c := hid (show OwnI w7 (gN + 1) (.slice A1 l1.length c1) l1 from own_kt (ts := [3]) LO1b.out (KT.of_grown hg2 (fun g e => by injection e with e; subst e; exact ⟨_, _, S6.out.rd, by decide⟩)) (by simp))
    have LO2 := hid (show OwnI w7 (gN + 1) (.slice A2 (rNs st1).1.length c2) (rNs st1).1 from own_base ho2 (by have := S6.out.net.lt; omega))
    clear ho2 hi2 hR2 hg2 S6 X6 LO1b
    obtain ⟨l2, hl2e⟩ : ∃ l2, l2 = (rNs st1).1 := ⟨_, rfl⟩
    obtain ⟨st2, hs2e⟩ : ∃ st2, st2 = (rNs st1).2 := ⟨_, rfl⟩
    rw [← hl2e] at LO2 hb2 hrm2 ⊢
    rw [← hs2e] at S7 hb2 hrm2 hlt hok3
    clear hl2e hs2e
    have x0 := X7.out.cell 0; have x1 := X7.out.cell 1; have xz := X7.out.lt; have xf := X7.out.frozen
    simp at x0 x1
    go_upto_region 9 with fail
    have X8 := hid (show Blk (w7.setCell ⟨gT, 1, none⟩ (.slice A2 l2.length c2)) gT 47 #[.slice A1 l1.length c1, .slice A2 l2.length c2] by
      have := X7.out.set_ 1 (.slice A2 l2.length c2)
      simpa using this)
    have S8 := hid (show SN w b gN p (.slice Ao O.length co) O st2 (w7.setCell ⟨gT, 1, none⟩ (.slice A2 l2.length c2)) from by
      have h1 := hbT.out; have h2 := hNT.out; have h3 := hwT.out
      exact ⟨S7.out.below.setCell (by simp; omega) _, S7.out.r.far (by simp; omega) _, Blk.far S7.out.rd (by simp; omega) _, S7.out.net.far (by simp; omega) _, S7.out.row.far X7.out (fun q hq => by have := hqT.out q hq; omega) _, S7.out.hb, S7.out.hN⟩)
    have LIT := hid (show LieT (w7.setCell ⟨gT, 1, none⟩ (.slice A2 l2.length c2)) (gN + 1) (⟨A1, l1.length, c1⟩, ⟨A2, l2.length, c2⟩) (l1, l2) from
      ⟨⟨rfl, own_kt (ts := [3]) LO1c.out (KT.of_set X7.out (by decide) _) (by simp), hb1.out.1⟩, rfl, own_kt (ts := [3]) LO2.out (KT.of_set X7.out (by decide) _) (by simp), hb2.out.1⟩)
    clear x0 x1 xz xf X7 S7 LO1c LO2 hqT
    generalize (w7.setCell ⟨gT, 1, none⟩ (.slice A2 l2.length c2)) = w8 at *
    have x0 := X8.out.cell 0; have x1 := X8.out.cell 1; have xz := X8.out.lt
    have n0 := S8.out.net.cell 0; have n1 := S8.out.net.cell 1; have nz := S8.out.net.lt
    simp at x0 x1 n0 n1
    obtain ⟨H, A9, c9, ev, hHl, hHo, hHL⟩ := S8.out.row.ex
    injection ev with e1 _ e2
    subst e1 e2
    have HHo := hid hHo
    have HHl := hid hHl
    have HHL := hid hHL
    have SG := hid (tdRK.blk (l := [((⟨A1, l1.length, c1⟩, ⟨A2, l2.length, c2⟩) : Hd × Hd)]) (Blk.new w8 47 #[.slice A1 l1.length c1, .slice A2 l2.length c2]) (fun _ _ => trivial))
    have hl9 := hid (show H.length + ([((⟨A1, l1.length, c1⟩, ⟨A2, l2.length, c2⟩) : Hd × Hd)] : List (Hd × Hd)).length ≤ 100000000 by rw [hHl, List.length_singleton]; have := HSZ.out; omega)
    have hb9 := hid (show gN + 1 ≤ (w8.alloc (Obj.cells #[.slice A1 l1.length c1, .slice A2 l2.length c2] 47)).heap.size by simp; omega)
    have hown8 := hid (show tdRK.Own (w8.alloc (Obj.cells #[.slice A1 l1.length c1, .slice A2 l2.length c2] 47)) (gN + 1) (.slice Ao O.length co) H from HHo.out.alloc _)
    clear hHo hHl hHL
    go_wp2_with (at_builtin; refine tdRK.appL _ rfl (.tmp 33) (.tmp 35) rfl rfl hown8.out (ys := [((⟨A1, l1.length, c1⟩, ⟨A2, l2.length, c2⟩) : Hd × Hd)]) (c := 1) rfl SG.out hl9.out hb9.out ?_; intro A' c' w9 ho9 hg9; simp only [List.length_singleton] at ho9 ⊢; have NT9 := hid (show Blk w9 gN 24 #[.int .i64 p, .slice Ao O.length co] from (S8.out.net.alloc _).grown hg9 (fun e => own_blk_ne hown8.out (S8.out.net.alloc _) (by decide) e.symm)); have n0' := NT9.out.cell 0; have n1' := NT9.out.cell 1; have nz' := NT9.out.lt; have nf' := NT9.out.frozen; simp at n0' n1')
    have HO9 := hid ho9
    have NT10 := hid (show Blk (w9.setCell ⟨gN, 1, none⟩ (.slice A' (H.length + 1) c')) gN 24 #[.int .i64 p, .slice A' (H.length + 1) c'] by
      have := NT9.out.set_ 1 (.slice A' (H.length + 1) c')
      simpa using this)
    have B9 := hid (show Below w.heap.size w w9 from (S8.out.below.alloc S8.out.below.size _).grown hg9 (by have := S8.out.below.size; simp; omega) (fun g hg => by have := (own_blk hown8.out g hg).1; have := S8.out.hb; have := S8.out.hN; omega))
    have R9 := hid (show Blk w9 w.heap.size 24 #[.int .i64 0, .slice none 0 0] from (S8.out.r.alloc _).grown hg9 (fun e => own_blk_ne hown8.out (S8.out.r.alloc _) (by decide) e.symm))
    have D9 := hid (show Rr w9 b st2.1 st2.2 from Blk.grown (Blk.alloc S8.out.rd _) hg9 (fun e => own_blk_ne hown8.out (Blk.alloc S8.out.rd _) (by decide) e.symm))
    have hkt := hid (show KT [3] w8 (w9.setCell ⟨gN, 1, none⟩ (.slice A' (H.length + 1) c')) from
      ((KT.of_below ((Below.refl _ w8).alloc (Nat.le_refl _) _)).trans (KT.of_grown hg9 (fun g e => by obtain ⟨_, cs, hB⟩ := own_blk hown8.out g e; exact ⟨_, cs, hB, by decide⟩))).trans (KT.of_set NT9.out (by decide) _))
    have S10 := hid (show SN w b gN p (.slice A' (O.length + 1) c') (O ++ [(l1, l2)]) st2 (w9.setCell ⟨gN, 1, none⟩ (.slice A' (H.length + 1) c')) from by
      have h1 := S8.out.hb; have h2 := S8.out.hN
      refine ⟨B9.out.setCell (by simp; omega) _, R9.out.far (by simp; omega) _, Blk.far D9.out (by simp; omega) _, by have := NT10.out; rwa [HHl.out] at this ⊢, ?_, h1, h2⟩
      refine Tw.push HHl.out HHL.out LIT.out (fun h t hl => hl.kt1 hkt.out) ?_
      rw [List.length_append, List.length_singleton]
      exact own_kt (ts := [47]) HO9.out (KT.of_set NT9.out (by decide) _) (by decide))
    rw [HHl.out] at *
    go_roundw
    case rel => exact ⟨j + 1, m, O ++ [(l1, l2)], st2, .slice A' (O.length + 1) c', by omega, by go_num, S10.out, hok3.out, by rw [List.length_append, List.length_singleton]; have h1 := hlt.out; have h2 := HSZ.out; omega, by rw [List.length_append, List.length_singleton]; have := HOL.out; omega, hrm2.out⟩
    case measure => simp [intOf]; omega
end Go.Proofs.YteljfpcmpdpehaaGreatDoor
namespace Go.Proofs.YteljfpcmpdpehaaGreatDoor
open Go.RowKit Go.IntWalk Go.Shelf

/-- The world while the reference reads a net. -/
structure SP (w : World) (b gN : Nat) (p : Int) (v : Value) (O : List Tr) (st : RS) (wx : World) : Prop where
  below : Below w.heap.size w wx
  r : Blk wx w.heap.size 24 #[.int .i64 0, .slice none 0 0]
  rd : Rd wx b st.1 st.2
  net : Blk wx gN 24 #[.int .i64 p, v]
  row : Tw wx (gN + 1) v O
  hb : w.heap.size < b
  hN : b < gN
theorem SP.step {w wx wy : World} {b gN : Nat} {p : Int} {v : Value} {O : List Tr} {st : RS} (h : SP w b gN p v O st wx) (hB : Below wx.heap.size wx wy) : SP w b gN p v O st wy :=
  ⟨h.below.trans (hB.mono h.below.size), h.r.below hB h.r.lt, Blk.below h.rd hB h.rd.lt, h.net.below hB h.net.lt, h.row.below hB, h.hb, h.hN⟩
theorem SP.read {w wx wy : World} {b gN : Nat} {p : Int} {v : Value} {O : List Tr} {st st' : RS} (h : SP w b gN p v O st wx) (hg : wx.grownBy wy (some b)) (hr : Rd wy b st'.1 st'.2) : SP w b gN p v O st' wy := by
  have h1 := h.hb
  have h2 := h.hN
  exact ⟨bg h.below hg (by omega), Blk.grown h.r hg (fun e => by injection e with e; omega), hr, Blk.grown h.net hg (fun e => by injection e with e; omega), h.row.reader hg h.rd (by decide), h1, h2⟩
def lenAt (w : World) (g : Nat) : Nat := match w.cell? ⟨g, 1, none⟩ with
  | some (.slice _ n _) => n
  | _ => 0
set_option maxRecDepth 100000 in
set_option maxHeartbeats 8000000 in
theorem pread_p (s : ByteArray) (w : World) (hs : s.size ≤ 90000) (he : Env w) :
    Calls Tryz.prog 6 #[.string s] w (RetNet w (readNet s.data.toList)) := by
  have hsl := hid (size_list s)
  have hl0 : s.data.toList.length ≤ 90000 := by rw [← size_list]; exact hs
  obtain ⟨l0, hl0e⟩ : ∃ l0, l0 = s.data.toList := ⟨_, rfl⟩
  have HO := open_any s
  rw [← hl0e] at hl0 HO ⊢
  have HRN : Hid (∃ p s1 kk s2, nP l0 = (p, s1) ∧ nK l0 = (kk, s2)) := ⟨_, _, _, _, rfl, rfl⟩
  obtain ⟨p, s1, kk, s2, hP, hK⟩ := HRN.out
  have cI := fun b W (h : Rd W b l0 false) (hE : Env W) => rInt_f (l0, false) (by simp only; omega) b W h hE
  have eP : rI (l0, false) = (p, s1) := hP
  rw [eP] at cI
  have hl1 := rI_le (l0, false)
  have ok1 : RSok s1 := by have := rI_ok (s := (l0, false)) (fun h => by cases h); rwa [eP] at this
  rw [eP] at hl1
  have eK : rN s1 = (kk, s2) := by have := hK; unfold nK at this; rw [hP] at this; exact this
  have cN := fun b W (h : Rd W b s1.1 s1.2) (hE : Env W) => rNum_f s1 (by simp only at hl1; omega) b W h hE
  rw [eK] at cN
  have hl2 := rN_le s1
  have ok2 := rN_ok ok1
  have hkb := rN_bd s1
  rw [eK] at hl2 ok2 hkb
  obtain ⟨K, rfl⟩ := Int.eq_ofNat_of_zero_le hkb.1
  have hT : nT l0 = rWhile rTr K s2 := by unfold nT; rw [hK]; rfl
  have hRd := hid (show readNet l0 = if (nT l0).2 = ([], false) ∧ ((nT l0).1.length : Int) = (K : Int) ∧ netOK (p, (nT l0).1) = true then some (p, (nT l0).1) else none by
    unfold readNet; rw [hK, hP])
  rw [hT] at hRd
  have HT2 := hid hT
  have CI := hid cI
  have CN := hid cN
  have OK2 := hid ok2
  have hl2' : s2.1.length ≤ 90000 := by simp only at hl1 hl2; omega
  have HKB : (K : Int) ≤ 9223372036854775807 := by have := hkb.2.2; omega
  clear HRN hP hK eP eK hl1 hl2 ok1 ok2 hkb hT cI cN hl0e
  have b0 := hid (Blk.new w 24 #[.int .i64 0, .slice none 0 0])
  have hb0 : Below w.heap.size w (w.alloc (Obj.cells #[.int .i64 0, .slice none 0 0] 24)) := by (repeat (first | exact Below.refl _ _ | assumption | refine below_drewN ?_ _ | refine Below.drew ?_ | refine Below.alloc ?_ (by (try simp); (try omega)) _ | refine Below.setCell ?_ (by (try simp); (try omega)) _))
  go_enter Tryz.func6, Tryz.ntmps6
  go_wp2_with fail
  refine (HO _).mono ?_
  rintro e w1 ⟨rfl, hR, hB⟩
  have hB1 := hid (hb0.trans (hB.mono hb0.size))
  have r1 := hid (b0.out.below hB b0.out.lt)
  have hz1 := hR.lt
  clear hB b0 hb0 HO
  generalize hbq : (w.alloc (Obj.cells #[.int .i64 0, .slice none 0 0] 24)).heap.size = b at *
  have hwb : w.heap.size < b := by rw [← hbq]; simp
  clear hbq
  go_wp2_with fail
  refine (CI.out _ _ hR (he.below hB1.out)).mono ?_
  rintro e w2 ⟨rfl, hR2, hg⟩
  have hB2 := hid (bg hB1.out hg (by omega))
  have r2 := hid (Blk.grown r1.out hg (fun e => by injection e with e; omega))
  have hz2 := hR2.lt
  have S2 := hid (show SP w b w2.heap.size p (.slice none 0 0) [] s1 (w2.alloc (Obj.cells #[.int .i64 p, .slice none 0 0] 24)) from ⟨hB2.out.alloc hB2.out.size _, r2.out.alloc _, Blk.alloc hR2 _, Blk.new _ _ _, Tw.nil, hwb, hz2⟩)
  clear hR hB1 hg CI hz1 r1 hR2 hB2 r2
  go_upto_region 3 with fail
  generalize w2.heap.size = gN at *
  generalize (w2.alloc (Obj.cells #[.int .i64 p, .slice none 0 0] 24)) = w3 at *
  go_wp2_with fail
  refine (CN.out _ _ S2.out.rd (he.below S2.out.below)).mono ?_
  rintro e w4 ⟨rfl, hR4, hg⟩
  have S4 := hid (S2.out.read (st' := s2) hg hR4)
  clear hR4 hg CN S2 hz2
  go_upto_region 4 with fail
  go_loopw [23] (fun _ wr => ∃ (m : Nat) (O : List Tr) (st : RS) (v : Value), O.length + m = K ∧ SP w b gN p v O st wr ∧ RSok st ∧ O.length + st.1.length ≤ 90000 ∧ Hid (rWhile rTr K s2 = (O ++ (rWhile rTr m st).1, (rWhile rTr m st).2))) (fun _ wr => K - lenAt wr gN)
  case atStart => exact ⟨K, [], s2, .slice none 0 0, by simp, S4.out, OK2.out, by simpa using hl2', by simp [Hid]⟩
  case round =>
    clear S4
    obtain ⟨m, O, st, v, hjm, hS, hst, hsz, hrm⟩ := hrel
    have HS := hid hS
    have HST := hid hst
    obtain ⟨Ao, co, rfl, hoc, hom, hos⟩ := hS.row.slr
    clear hS hst hos
    have n0 := HS.out.net.cell 0; have n1 := HS.out.net.cell 1; have nz := HS.out.net.lt
    simp at n0 n1
    by_cases hmore : 0 < m ∧ st.1 ≠ []
    case neg =>
      have hfin := hid (show rWhile rTr K s2 = (O, st) by
        have h0 : rWhile rTr m st = ([], st) := by
          by_cases hm : m = 0
          · subst hm; rfl
          · exact rWhile_nil _ _ _ (Classical.not_not.1 fun h => hmore ⟨by omega, h⟩)
        rw [hrm.out, h0]; simp)
      have hoL := hid (show O.length ≤ maxLen by unfold maxLen; omega)
      by_cases hm : m = 0
      · have hjK : ¬ (O.length : Int) < (K : Int) := by omega
        have HOK := hid (show O.length = K by omega)
        clear hmore hrm hm hsz hjm
        as_aux_lemma =>
          go_wp2_with fail
          refine (done_any b st.1 st.2 wr HS.out.rd).mono ?_
          cases hdn : (!st.2 && st.1.isEmpty) with
          | false =>
            have hr := hid (show readNet l0 = none by
              rw [hRd.out, hfin.out, if_neg]
              rintro ⟨h, -⟩
              simp only at h
              rw [h] at hdn
              simp at hdn)
            rintro e w9 ⟨rfl, hB9⟩
            have S9 := hid (HS.out.step hB9)
            clear hB9 HS hdn n0 n1 nz
            have r0 := S9.out.r.cell 0; have r1 := S9.out.r.cell 1; have fr0 := S9.out.r.frozen 0; have fr1 := S9.out.r.frozen 1; have lR := S9.out.r.lt
            simp at r0 r1
            go_wp2_with fail
            refine bodyPost_ret (v := .tuple #[.agg #[.int .i64 0, .slice none 0 0], .bool false]) (by simp [results, Tryz.results6, go_sem, r0, r1, fr0, fr1, lR]) rfl ?_
            rw [hr.out]
            exact ⟨rfl, (S9.out.below.setCell (Nat.le_refl _) _).setCell (Nat.le_refl _) _⟩
          | true =>
            have hst0 := hid (show st = ([], false) by
              obtain ⟨a, c⟩ := st
              cases c <;> cases a <;> simp at hdn ⊢)
            rintro e w9 ⟨rfl, hB9⟩
            have S9 := hid (HS.out.step hB9)
            clear hB9 HS hdn n0 n1 nz
            have n0 := S9.out.net.cell 0; have n1 := S9.out.net.cell 1; have nz := S9.out.net.lt
            simp at n0 n1
            by_cases hlen : O.length = K
            · subst hlen
              obtain ⟨A9, c9, ev, _, _, hs9⟩ := S9.out.row.slr
              injection ev with e1 _ e2
              subst e1 e2
              have HRt := hid (right_any p Ao co O w9 hoL.out hs9)
              have hfin2 := hid (show readNet l0 = if netOK (p, O) = true then some (p, O) else none by
                rw [hRd.out, hfin.out, hst0.out]; simp)
              clear hs9
              cases hok : netOK (p, O) with
              | false =>
                have hr := hid (show readNet l0 = none by rw [hfin2.out, hok]; rfl)
                rw [hok] at HRt
                clear hok
                as_aux_lemma =>
                  go_wp2_with fail
                  refine HRt.out.mono ?_
                  rintro e w8 ⟨rfl, hB8⟩
                  have S8 := hid (S9.out.step hB8)
                  clear hB8 n0 n1 nz S9 HRt
                  have r0 := S8.out.r.cell 0; have r1 := S8.out.r.cell 1; have fr0 := S8.out.r.frozen 0; have fr1 := S8.out.r.frozen 1; have lR := S8.out.r.lt
                  simp at r0 r1
                  go_wp2_with fail
                  refine bodyPost_ret (v := .tuple #[.agg #[.int .i64 0, .slice none 0 0], .bool false]) (by simp [results, Tryz.results6, go_sem, r0, r1, fr0, fr1, lR]) rfl ?_
                  rw [hr.out]
                  exact ⟨rfl, (S8.out.below.setCell (Nat.le_refl _) _).setCell (Nat.le_refl _) _⟩
              | true =>
                have hr := hid (show readNet l0 = some (p, O) by rw [hfin2.out, hok]; rfl)
                rw [hok] at HRt
                clear hok
                as_aux_lemma =>
                  go_wp2_with fail
                  refine HRt.out.mono ?_
                  rintro e w8 ⟨rfl, hB8⟩
                  have S8 := hid (S9.out.step hB8)
                  clear hB8 n0 n1 nz S9 HRt
                  have n0 := S8.out.net.cell 0; have n1 := S8.out.net.cell 1; have nz := S8.out.net.lt
                  have r0 := S8.out.r.cell 0; have r1 := S8.out.r.cell 1; have fr0 := S8.out.r.frozen 0; have fr1 := S8.out.r.frozen 1; have lR := S8.out.r.lt
                  simp at r0 r1 n0 n1
                  obtain ⟨A8, c8, ev, _, _, hs8⟩ := (S8.out.row.kt ((KT.of_set (ts := tsT) S8.out.r (i := 0) (by decide) (.int .i64 p)).trans (KT.of_set (ts := tsT) (S8.out.r.set_ 0 (.int .i64 p)) (i := 1) (by decide) (.slice Ao O.length co)))).slr
                  injection ev with e1 _ e2
                  subst e1 e2
                  have HS8 := hid hs8
                  clear hs8
                  go_wp2_with fail
                  refine bodyPost_ret (v := .tuple #[.agg #[.int .i64 p, .slice Ao O.length co], .bool true]) (by simp [results, Tryz.results6, go_sem, r0, r1, fr0, fr1, lR]) rfl ?_
                  rw [hr.out]
                  exact ⟨Ao, co, rfl, HS8.out, hoL.out, (S8.out.below.setCell (Nat.le_refl _) _).setCell (Nat.le_refl _) _⟩
            · exact absurd HOK.out hlen
      · have hjK : (O.length : Int) < (K : Int) := by omega
        have hnil : st.1 = [] := Classical.not_not.1 fun h => hmore ⟨by omega, h⟩
        have hln : ¬ (0 : Int) < (st.1.length : Int) := by rw [hnil]; simp
        have HNIL := hid hnil
        have HOK := hid (show O.length ≠ K by omega)
        clear hmore hrm hm hsz hnil hjm
        as_aux_lemma =>
          go_wp2_with fail
          refine (left_any b st.1 st.2 wr HS.out.rd).mono ?_
          rintro e w0 ⟨rfl, hBl⟩
          have S0 := hid (HS.out.step hBl)
          clear hBl HS n0 n1 nz
          have n0 := S0.out.net.cell 0; have n1 := S0.out.net.cell 1; have nz := S0.out.net.lt
          simp at n0 n1
          go_wp2_with fail
          refine (done_any b st.1 st.2 w0 S0.out.rd).mono ?_
          cases hdn : (!st.2 && st.1.isEmpty) with
          | false =>
            have hr := hid (show readNet l0 = none by
              rw [hRd.out, hfin.out, if_neg]
              rintro ⟨h, -⟩
              simp only at h
              rw [h] at hdn
              simp at hdn)
            rintro e w9 ⟨rfl, hB9⟩
            have S9 := hid (S0.out.step hB9)
            clear hB9 S0 hdn n0 n1 nz
            have r0 := S9.out.r.cell 0; have r1 := S9.out.r.cell 1; have fr0 := S9.out.r.frozen 0; have fr1 := S9.out.r.frozen 1; have lR := S9.out.r.lt
            simp at r0 r1
            go_wp2_with fail
            refine bodyPost_ret (v := .tuple #[.agg #[.int .i64 0, .slice none 0 0], .bool false]) (by simp [results, Tryz.results6, go_sem, r0, r1, fr0, fr1, lR]) rfl ?_
            rw [hr.out]
            exact ⟨rfl, (S9.out.below.setCell (Nat.le_refl _) _).setCell (Nat.le_refl _) _⟩
          | true =>
            have hst0 := hid (show st = ([], false) by
              obtain ⟨a, c⟩ := st
              cases c <;> cases a <;> simp at hdn ⊢)
            rintro e w9 ⟨rfl, hB9⟩
            have S9 := hid (S0.out.step hB9)
            clear hB9 S0 hdn n0 n1 nz
            have n0 := S9.out.net.cell 0; have n1 := S9.out.net.cell 1; have nz := S9.out.net.lt
            simp at n0 n1
            by_cases hlen : O.length = K
            · exact absurd hlen HOK.out
            · have hr := hid (show readNet l0 = none by
                rw [hRd.out, hfin.out, if_neg]
                rintro ⟨-, h, -⟩
                simp only at h
                omega)
              as_aux_lemma =>
                have r0 := S9.out.r.cell 0; have r1 := S9.out.r.cell 1; have fr0 := S9.out.r.frozen 0; have fr1 := S9.out.r.frozen 1; have lR := S9.out.r.lt
                simp at r0 r1
                go_wp2_with fail
                refine bodyPost_ret (v := .tuple #[.agg #[.int .i64 0, .slice none 0 0], .bool false]) (by simp [results, Tryz.results6, go_sem, r0, r1, fr0, fr1, lR]) rfl ?_
                rw [hr.out]
                exact ⟨rfl, (S9.out.below.setCell (Nat.le_refl _) _).setCell (Nat.le_refl _) _⟩
    case pos =>
    obtain ⟨hm, hnil⟩ := hmore
    obtain ⟨m, rfl⟩ : ∃ k, m = k + 1 := ⟨m - 1, by omega⟩
    have hjK : (O.length : Int) < (K : Int) := by omega
    have hln : (0 : Int) < (st.1.length : Int) := by have := List.length_pos_iff.2 hnil; omega
    have HNIL := hid hnil
    have HSZ := hid hsz
    have HJM := hid hjm
    clear hnil hsz hm
    go_wp2_with fail
    refine (left_any b st.1 st.2 wr HS.out.rd).mono ?_
    rintro e w0 ⟨rfl, hBl⟩
    have S0 := hid (HS.out.step hBl)
    have hme := hid (show lenAt wr gN = O.length by unfold lenAt; rw [n1])
    clear hBl HS n0 n1 nz
    have n1 := S0.out.net.cell 1; have nz := S0.out.net.lt
    simp at n1
    go_upto_region 5 with fail
    have SD := hid (S0.out.step ((Below.refl w0.heap.size w0).drew))
    refine wpIn_wide.1 (wpIn_region_S (n := 0) (fun wq => wq.cell? ⟨gN, 1, none⟩ = some (.slice Ao O.length co)) [10] (by kernel_rfl) n1 (fun hHeld => ?_))
    have HSF := hid (fun (wq : World) (hq : wq.cell? ⟨gN, 1, none⟩ = some (.slice Ao O.length co)) => hq)
    clear n1 nz S0
    generalize w0.drew = wd at *
    have hb1 := hid (rNs_bd st)
    have hb2 := hid (rNs_bd (rNs st).2)
    have hlt := hid (rTr_lt st HNIL.out)
    have hpair := hid (show rTr st = (((rNs st).1, (rNs (rNs st).2).1), (rNs (rNs st).2).2) from rfl)
    have hok2 := hid (rNs_ok HST.out)
    have hok3 := hid (rTr_ok HST.out)
    have hrm2 := hid (show rWhile rTr K s2 = ((O ++ [(rTr st).1]) ++ (rWhile rTr m (rTr st).2).1, (rWhile rTr m (rTr st).2).2) by
      rw [hrm.out, show rWhile rTr (m + 1) st = if st.1 = [] then ([], st) else ((rTr st).1 :: (rWhile rTr m (rTr st).2).1, (rWhile rTr m (rTr st).2).2) from rfl, if_neg HNIL.out]
      simp)
    rw [hpair.out] at hrm2 hlt hok3
    clear hpair
    refine wpAnyG_pure 0 (v := ?_) (fun _ => trivial) (by simp only [List.getElem?_toArray, List.getElem?_cons_succ, List.getElem?_cons_zero]; rfl) (by kernel_rfl) (fun _ _ _ _ _ h => h) ⟨(by rfl), (by intro c h; cases h), ?_⟩ hHeld ?_
    rotate_left
    focus (intro wS hSw; (try replace hSw := HSF.out wS hSw); (try dsimp only at hSw); go_simp; (try with_reducible rfl))
    (try simp only [Act.put, List.setIfInBounds_toArray, List.set_cons_zero, List.set_cons_succ])
    refine wpAnyG_take 1 (v := ?_) (fun _ => trivial) (by simp only [List.getElem?_toArray, List.getElem?_cons_succ, List.getElem?_cons_zero]; rfl) (by kernel_rfl) (fun _ _ _ _ _ h => h) ⟨(by rfl), (by intro c h; cases h), ?_⟩ hHeld ?_
    rotate_left
    focus (intro wS hSw; (try replace hSw := HSF.out wS hSw); (try dsimp only at hSw); go_simp; (try with_reducible rfl))
    (try simp only [Act.put, List.setIfInBounds_toArray, List.set_cons_zero, List.set_cons_succ])
    refine wpAnyG_pure 2 (v := ?_) (fun _ => trivial) (by simp only [List.getElem?_toArray, List.getElem?_cons_succ, List.getElem?_cons_zero]; rfl) (by kernel_rfl) (fun _ _ _ _ _ h => h) ⟨(by rfl), (by intro c h; cases h), ?_⟩ hHeld ?_
    rotate_left
    focus (intro wS hSw; (try replace hSw := HSF.out wS hSw); (try dsimp only at hSw); go_simp; (try with_reducible rfl))
    (try simp only [Act.put, List.setIfInBounds_toArray, List.set_cons_zero, List.set_cons_succ])
    refine wpAnyG_pure 4 (v := ?_) (fun _ => trivial) (by simp only [List.getElem?_toArray, List.getElem?_cons_succ, List.getElem?_cons_zero]; rfl) (by kernel_rfl) (fun _ _ _ _ _ h => h) ⟨(by rfl), (by intro c h; cases h), ?_⟩ hHeld ?_
    rotate_left
    focus (intro wS hSw; (try replace hSw := HSF.out wS hSw); (try dsimp only at hSw); go_simp; (try with_reducible rfl))
    (try simp only [Act.put, List.setIfInBounds_toArray, List.set_cons_zero, List.set_cons_succ])
    refine wpAnyS_ready [3] (by kernel_rfl) (by simp) (AllReadyS.consG (by simp only [List.getElem?_toArray, List.getElem?_cons_succ, List.getElem?_cons_zero]; rfl) (by rfl) (fun K hK => ?_) AllReadyS.nil)
    refine callV (R := fun u w' => ∃ (A9 : Option Addr) (c9 : Nat), u = .slice A9 (rNs st).1.length c9 ∧ OwnI w' wd.heap.size (.slice A9 (rNs st).1.length c9) (rNs st).1 ∧ Rd w' b (rNs st).2.1 (rNs st).2.2 ∧ wd.grownBy w' (some b)) (by intro c h; cases h) (by go_simp; try with_reducible rfl) ((rNsP_f st HST.out (by have := HSZ.out; omega) b w wd SD.out.rd he (by have := SD.out.hb; omega) SD.out.below).mono (fun e w' ⟨A', c', he, _, _, ho, _, hr, hg⟩ => ⟨_, he, A', c', rfl, ho, hr, hg⟩)) ?_
    rintro u w5 ⟨A1, c1, rfl, ho1, hR1, hg1⟩
    have S5 := hid (SD.out.read (st' := (rNs st).2) hg1 hR1)
    have nS := S5.out.net.cell 1
    simp at nS
    refine hK.out _ _ nS ?_
    (try simp only [Act.put, List.setIfInBounds_toArray, List.set_cons_zero, List.set_cons_succ])
    clear hK K hHeld
    have hHeld := nS
    have LO1 := hid (show OwnI w5 (gN + 1) (.slice A1 (rNs st).1.length c1) (rNs st).1 from own_base ho1 (by have := SD.out.net.lt; omega))
    clear ho1 hR1 hg1 SD
    refine wpAnyS_ready [5] (by kernel_rfl) (by simp) (AllReadyS.consG (by simp only [List.getElem?_toArray, List.getElem?_cons_succ, List.getElem?_cons_zero]; rfl) (by rfl) (fun K hK => ?_) AllReadyS.nil)
    refine callV (R := fun u w' => ∃ (A9 : Option Addr) (c9 : Nat), u = .slice A9 (rNs (rNs st).2).1.length c9 ∧ OwnI w' w5.heap.size (.slice A9 (rNs (rNs st).2).1.length c9) (rNs (rNs st).2).1 ∧ Rd w' b (rNs (rNs st).2).2.1 (rNs (rNs st).2).2.2 ∧ w5.grownBy w' (some b)) (by intro c h; cases h) (by go_simp; try with_reducible rfl) ((rNsP_f (rNs st).2 hok2.out (by have h1 := hb1.out.2.2; have h2 := HSZ.out; omega) b w w5 S5.out.rd he (by have := S5.out.hb; omega) S5.out.below).mono (fun e w' ⟨A', c', he, _, _, ho, _, hr, hg⟩ => ⟨_, he, A', c', rfl, ho, hr, hg⟩)) ?_
    rintro u w7 ⟨A2, c2, rfl, ho2, hR1, hg1⟩
    have S7 := hid (S5.out.read (st' := (rNs (rNs st).2).2) hg1 hR1)
    have nS := S7.out.net.cell 1
    simp at nS
    refine hK.out _ _ nS ?_
    (try simp only [Act.put, List.setIfInBounds_toArray, List.set_cons_zero, List.set_cons_succ])
    clear hK K hHeld
    have hHeld := nS
    have LO1c := hid (show OwnI w7 (gN + 1) (.slice A1 (rNs st).1.length c1) (rNs st).1 from own_kt (ts := [3]) LO1.out (KT.of_grown hg1 (fun g e => by injection e with e; subst e; exact ⟨_, _, S5.out.rd, by decide⟩)) (by simp))
    have LO2 := hid (show OwnI w7 (gN + 1) (.slice A2 (rNs (rNs st).2).1.length c2) (rNs (rNs st).2).1 from own_base ho2 (by have := S5.out.net.lt; omega))
    clear ho2 hR1 hg1 S5 LO1
    obtain ⟨l1, hl1e⟩ : ∃ l1, l1 = (rNs st).1 := ⟨_, rfl⟩
    obtain ⟨l2, hl2e⟩ : ∃ l2, l2 = (rNs (rNs st).2).1 := ⟨_, rfl⟩
    obtain ⟨st2, hs2e⟩ : ∃ st2, st2 = (rNs (rNs st).2).2 := ⟨_, rfl⟩
    rw [← hl2e] at LO2 hb2 hrm2 ⊢
    rw [← hs2e] at S7 hb2 hrm2 hlt hok3
    rw [← hl1e] at LO1c hb1 hrm2 ⊢
    clear hl1e hl2e hs2e
    have LIT := hid (show LieT w7 (gN + 1) (⟨A1, l1.length, c1⟩, ⟨A2, l2.length, c2⟩) (l1, l2) from ⟨⟨rfl, LO1c.out, hb1.out.1⟩, rfl, LO2.out, hb2.out.1⟩)
    obtain ⟨H, A9, c9, ev, hHl, hHo, hHL⟩ := S7.out.row.ex
    injection ev with e1 _ e2
    subst e1 e2
    have HHo := hid hHo
    have HHl := hid hHl
    have HHL := hid hHL
    have SG := hid (tdRK.blk (l := [((⟨A1, l1.length, c1⟩, ⟨A2, l2.length, c2⟩) : Hd × Hd)]) (Blk.new w7 47 #[.slice A1 l1.length c1, .slice A2 l2.length c2]) (fun _ _ => trivial))
    have hl9 := hid (show H.length + ([((⟨A1, l1.length, c1⟩, ⟨A2, l2.length, c2⟩) : Hd × Hd)] : List (Hd × Hd)).length ≤ 100000000 by rw [hHl, List.length_singleton]; have := HSZ.out; omega)
    have hb9 := hid (show gN + 1 ≤ (w7.alloc (Obj.cells #[.slice A1 l1.length c1, .slice A2 l2.length c2] 47)).heap.size by have := S7.out.net.lt; simp; omega)
    have hown8 := hid (show tdRK.Own (w7.alloc (Obj.cells #[.slice A1 l1.length c1, .slice A2 l2.length c2] 47)) (gN + 1) (.slice Ao O.length co) H from HHo.out.alloc _)
    clear hHo hHl hHL LO1c LO2
    have nA := (S7.out.net.alloc (Obj.cells #[.slice A1 l1.length c1, .slice A2 l2.length c2] 47)).cell 1
    simp only [List.getElem?_toArray, List.getElem?_cons_succ, List.getElem?_cons_zero] at nA
    refine wpAnyG_pure 6 (v := ?_) (fun _ => trivial) (by simp only [List.getElem?_toArray, List.getElem?_cons_succ, List.getElem?_cons_zero]; rfl) (by kernel_rfl) (fun _ _ _ _ _ h => h) ⟨(by rfl), (by intro c h; cases h), ?_⟩ hHeld ?_
    rotate_left
    focus (intro wS hSw; (try replace hSw := HSF.out wS hSw); (try dsimp only at hSw); go_simp; (try with_reducible rfl))
    (try simp only [Act.put, List.setIfInBounds_toArray, List.set_cons_zero, List.set_cons_succ])
    refine wpAnyS_ready [7] (by kernel_rfl) (by simp) (AllReadyS.cons (by simp only [List.getElem?_toArray, List.getElem?_cons_succ, List.getElem?_cons_zero]; rfl) rfl (fun K hK => ?_) AllReadyS.nil)
    go_simp
    refine hK.out _ _ nA ?_
    (try simp only [Act.put, List.setIfInBounds_toArray, List.set_cons_zero, List.set_cons_succ])
    clear hK K hHeld
    have hHeld := nA
    refine wpAnyS_ready [8] (by kernel_rfl) (by simp) (AllReadyS.cons (by simp only [List.getElem?_toArray, List.getElem?_cons_succ, List.getElem?_cons_zero]; rfl) rfl (fun K hK => ?_) AllReadyS.nil)
    refine tdRK.appS (fun _ => trivial) (.tmp 25) (.tmp 31) rfl rfl hown8.out (ys := [((⟨A1, l1.length, c1⟩, ⟨A2, l2.length, c2⟩) : Hd × Hd)]) (c := 1) rfl SG.out hl9.out hb9.out ?_
    intro A' c' w9 ho9 hg9
    simp only [List.length_singleton] at ho9 ⊢
    have NT9 := hid (show Blk w9 gN 24 #[.int .i64 p, (.slice Ao O.length co)] from (S7.out.net.alloc _).grown hg9 (fun e => own_blk_ne hown8.out (S7.out.net.alloc _) (by decide) e.symm))
    have n1' := NT9.out.cell 1; have nz' := NT9.out.lt; have nf' := NT9.out.frozen
    simp at n1'
    refine hK.out _ _ n1' ?_
    (try simp only [Act.put, List.setIfInBounds_toArray, List.set_cons_zero, List.set_cons_succ])
    clear hK K hHeld nA nS
    have hHeld := n1'
    have HO9 := hid ho9
    have NT10 := hid (show Blk (w9.setCell ⟨gN, 1, none⟩ (.slice A' (H.length + 1) c')) gN 24 #[.int .i64 p, .slice A' (H.length + 1) c'] by
      have := NT9.out.set_ 1 (.slice A' (H.length + 1) c')
      simpa using this)
    have B9 := hid (show Below w.heap.size w w9 from (S7.out.below.alloc S7.out.below.size _).grown hg9 (by have := S7.out.below.size; simp; omega) (fun g hg => by have := (own_blk hown8.out g hg).1; have := S7.out.hb; have := S7.out.hN; omega))
    have R9 := hid (show Blk w9 w.heap.size 24 #[.int .i64 0, .slice none 0 0] from (S7.out.r.alloc _).grown hg9 (fun e => own_blk_ne hown8.out (S7.out.r.alloc _) (by decide) e.symm))
    have D9 := hid (show Rd w9 b st2.1 st2.2 from Blk.grown (Blk.alloc S7.out.rd _) hg9 (fun e => own_blk_ne hown8.out (Blk.alloc S7.out.rd _) (by decide) e.symm))
    have hkt := hid (show KT [3] w7 (w9.setCell ⟨gN, 1, none⟩ (.slice A' (H.length + 1) c')) from
      ((KT.of_below ((Below.refl _ w7).alloc (Nat.le_refl _) _)).trans (KT.of_grown hg9 (fun g e => by obtain ⟨_, cs, hB⟩ := own_blk hown8.out g e; exact ⟨_, cs, hB, by decide⟩))).trans (KT.of_set NT9.out (by decide) _))
    have S10 := hid (show SP w b gN p (.slice A' (O.length + 1) c') (O ++ [(l1, l2)]) st2 (w9.setCell ⟨gN, 1, none⟩ (.slice A' (H.length + 1) c')) from by
      have h1 := S7.out.hb; have h2 := S7.out.hN
      refine ⟨B9.out.setCell (by simp; omega) _, R9.out.far (by simp; omega) _, Blk.far D9.out (by simp; omega) _, by have := NT10.out; rwa [HHl.out] at this ⊢, ?_, h1, h2⟩
      refine Tw.push HHl.out HHL.out LIT.out (fun h t hl => hl.kt1 hkt.out) ?_
      rw [List.length_append, List.length_singleton]
      exact own_kt (ts := [47]) HO9.out (KT.of_set NT9.out (by decide) _) (by decide))
    have hme2 := hid (show lenAt (w9.setCell ⟨gN, 1, none⟩ (.slice A' (H.length + 1) c')) gN = O.length + 1 by
      have := NT10.out.cell 1
      simp at this
      unfold lenAt; rw [this, HHl.out])
    refine wpAnyG_pure 9 (v := ?_) (fun _ => trivial) (by simp only [List.getElem?_toArray, List.getElem?_cons_succ, List.getElem?_cons_zero]; rfl) (by kernel_rfl) (fun _ _ _ _ _ h => h) ⟨(by rfl), (by intro c h; cases h), ?_⟩ hHeld ?_
    rotate_left
    focus (intro wS hSw; (try replace hSw := HSF.out wS hSw); (try dsimp only at hSw); go_simp; (try with_reducible rfl))
    (try simp only [Act.put, List.setIfInBounds_toArray, List.set_cons_zero, List.set_cons_succ])
    refine wpAnyS_ready [10] (by kernel_rfl) (by simp) (AllReadyS.consL (by simp only [List.getElem?_toArray, List.getElem?_cons_succ, List.getElem?_cons_zero]; rfl) rfl (by kernel_rfl) (fun K hK => ?_) AllReadyS.nil)
    go_simp
    refine hK.out _ _ ?_
    (try simp only [Act.put, List.setIfInBounds_toArray, List.set_cons_zero, List.set_cons_succ])
    refine wpAnyS_done (by kernel_rfl) ?_
    clear hK K HSF hHeld
    generalize (w9.setCell ⟨gN, 1, none⟩ (.slice A' (H.length + 1) c')) = w10 at *
    go_wp2_with fail
    go_roundw
    case rel => exact ⟨m, O ++ [(l1, l2)], st2, .slice A' (O.length + 1) c', by rw [List.length_append, List.length_singleton]; omega, S10.out, hok3.out, by rw [List.length_append, List.length_singleton]; have h1 := hlt.out; have h2 := HSZ.out; omega, hrm2.out⟩
    case measure => rw [hme2.out, hme.out]; omega
end Go.Proofs.YteljfpcmpdpehaaGreatDoor
