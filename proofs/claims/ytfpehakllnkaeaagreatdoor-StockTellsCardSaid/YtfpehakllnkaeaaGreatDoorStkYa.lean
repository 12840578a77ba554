
/- Stock: Bytes. -/
import Derived.Test.YtfpehakllnkaeaaGreatDoorEncB
import Derived.Test.YtfpehakllnkaeaaGreatDoorStkRk
import Derived.Test.YtfpehakllnkaeaaGreatDoorStkS
set_option linter.unusedSimpArgs false
set_option linter.unusedVariables false
namespace Go.Proofs.YtfpehakllnkaeaaGreatDoor
open Go.RowKit Go.IntWalk

def fzI (b : Bool) : Int := if b then 1 else 0
theorem fzI_I (b : Bool) : I64 (fzI b) := by unfold fzI I64; split <;> omega
def encKd (k : Kd) : List UInt8 := encT k.1.data.toList ++ encI k.2
def lt3 (l : Lt) : P3 := (l.1, l.2.1, fzI l.2.2)
def encLt (l : Lt) : List UInt8 := enc3 (lt3 l)
def encStk (ks : List Kd) (lots : List Lt) (bxs : List Bx) : List UInt8 := encI ks.length ++ (ks.map encKd).flatten ++ encI lots.length ++ (lots.map encLt).flatten ++ encI bxs.length ++ (bxs.map enc3).flatten
def KdI (k : Kd) : Prop := k.1.size ≤ 1000 ∧ I64 k.2
theorem encT_le (s : ByteArray) (h : s.size ≤ 1000) : (encT s.data.toList).length ≤ 1040 := by
  have h1 := Lib.itoa_length_le (s.data.toList.length : Int) (by omega) (by rw [← size_list]; omega)
  have h2 := size_list s
  simp only [encT, List.length_append, List.length_cons, List.length_nil]
  omega
theorem encKd_le (k : Kd) (h : KdI k) : (encKd k).length ≤ 1100 := by
  have := encT_le k.1 h.1; have := encI_le22 k.2 h.2
  simp only [encKd, List.length_append]; omega
theorem encLt_le (l : Lt) (h : I64 l.1 ∧ I64 l.2.1) : (encLt l).length ≤ 66 := enc3_le _ ⟨h.1, h.2, fzI_I _⟩
theorem flat_bd {α : Type} (enc : α → List UInt8) (B : Nat) : ∀ (l : List α), (∀ x ∈ l, (enc x).length ≤ B) → ((l.map enc).flatten).length ≤ B * l.length
  | [], _ => by simp
  | x :: l, h => by
    have h1 := h x (List.mem_cons_self ..)
    have ih := flat_bd enc B l (fun y hy => h y (List.mem_cons_of_mem _ hy))
    simp only [List.map_cons, List.flatten_cons, List.length_append, List.length_cons, Nat.mul_succ]
    omega
theorem cat2k (s : ByteArray) (n : Int) : bs (encT s.data.toList) ++ bs (encI n) = bs (encKd (s, n)) := by rw [bs_app]; rfl
theorem add2k (s : ByteArray) (n : Int) (h : s.size ≤ 1000) (hn : I64 n) : ¬ 9223372036854775807 < (bs (encT s.data.toList)).size + (bs (encI n)).size := by
  have := encT_le s h; have := sz22 n hn; rw [bs_size]; omega
theorem lts_I {w : World} {B : Nat} {A : Option Addr} {l : List Lt} (h : SlR w B A l) : ∀ x ∈ l, I64 x.1 ∧ I64 x.2.1 := by
  intro x hx
  obtain ⟨k, hk, rfl⟩ := List.getElem_of_mem hx
  obtain ⟨_, _, _, _, _, _, _, h1, h2⟩ := h.lt hk
  exact ⟨h1, h2⟩
theorem bxs_I {w : World} {B : Nat} {A : Option Addr} {l : List Bx} (h : SlR w B A l) : ∀ x ∈ l, P3I x := bxRK.oks h
set_option maxRecDepth 100000 in
set_option maxHeartbeats 8000000 in
theorem sbytes_any (A B C : Option Addr) (c d e0 : Nat) (ks : List Kd) (lots : List Lt) (bxs : List Bx) (w : World) (hk : ks.length ≤ 10000) (hl : lots.length ≤ 10000) (hb : bxs.length ≤ 10000) (hK : ∀ k ∈ ks, KdI k) (h1 : SlR w w.heap.size A ks) (h2 : SlR w w.heap.size B lots) (h3 : SlR w w.heap.size C bxs) (he : Env w) :
    Calls Tryz.prog 31 #[.slice A ks.length c, .slice B lots.length d, .slice C bxs.length e0] w fun e w' => e = .returned (.string (bs (encStk ks lots bxs))) ∧ Below w.heap.size w w' := by
  have HKO := hid hK
  have HLO := hid (lts_I h2)
  have HBO := hid (bxs_I h3)
  clear hK
  have z1 := hid (encI_le22 ks.length ⟨by omega, by omega⟩)
  have z2 := hid (encI_le22 lots.length ⟨by omega, by omega⟩)
  have z3 := hid (encI_le22 bxs.length ⟨by omega, by omega⟩)
  have f1 := hid (flat_bd encKd 1100 ks (fun x hx => encKd_le x (HKO.out x hx)))
  have f2 := hid (flat_bd encLt 66 lots (fun x hx => encLt_le x (HLO.out x hx)))
  have f3 := hid (flat_bd enc3 66 bxs (fun x hx => enc3_le x (HBO.out x hx)))
  obtain ⟨a0, ha0⟩ : ∃ a, a = encI ks.length := ⟨_, rfl⟩
  have H0 := hid ha0
  have L0 := hid (show a0.length ≤ 22 by rw [ha0]; exact z1.out)
  clear ha0
  obtain ⟨a1, ha1⟩ : ∃ a, a = a0 ++ (ks.map encKd).flatten := ⟨_, rfl⟩
  have H1 := hid ha1
  have L1 := hid (show a1.length ≤ 12000000 by rw [ha1, List.length_append]; have := L0.out; have := f1.out; omega)
  clear ha1
  obtain ⟨a2, ha2⟩ : ∃ a, a = a1 ++ encI lots.length := ⟨_, rfl⟩
  have H2 := hid ha2
  have L2 := hid (show a2.length ≤ 13000000 by rw [ha2, List.length_append]; have := L1.out; have := z2.out; omega)
  clear ha2
  obtain ⟨a3, ha3⟩ : ∃ a, a = a2 ++ (lots.map encLt).flatten := ⟨_, rfl⟩
  have H3 := hid ha3
  have L3 := hid (show a3.length ≤ 15000000 by rw [ha3, List.length_append]; have := L2.out; have := f2.out; omega)
  clear ha3
  obtain ⟨a4, ha4⟩ : ∃ a, a = a3 ++ encI bxs.length := ⟨_, rfl⟩
  have H4 := hid ha4
  have L4 := hid (show a4.length ≤ 16000000 by rw [ha4, List.length_append]; have := L3.out; have := z3.out; omega)
  clear ha4
  have HEND := hid (show a4 ++ (bxs.map enc3).flatten = encStk ks lots bxs by rw [H4.out, H3.out, H2.out, H1.out, H0.out]; rfl)
  have HN0 := hid (BW.num he ks.length (by omega) _ (BW.fresh w))
  have HW0 := hid (fun W hW => BW.write (w := w) (acc := []) (encI ks.length) (by have := z1.out; simp; omega) W hW)
  rw [List.nil_append, ← H0.out] at HW0
  rw [← H0.out] at HN0
  have q0 : (bs a0).size ≤ 22 := by rw [bs_size]; exact L0.out
  go_enter Tryz.func31, Tryz.ntmps31
  go_wp2_with fail
  refine HN0.out.mono ?_
  rintro e w1 ⟨rfl, hB1⟩
  have B1 := hid hB1
  clear hB1
  go_wp2_with fail
  refine (HW0.out _ B1.out).mono ?_
  rintro e w2 ⟨rfl, hB2⟩
  have B2 := hid hB2
  clear hB2 B1 HN0 HW0 q0
  go_wp2_with fail
  go_loopw [21] (fun i wr => ∃ k : Nat, k ≤ ks.length ∧ i = .int .i64 k ∧ BW w (a0 ++ ((ks.take k).map encKd).flatten) wr) (fun i _ => ks.length - (intOf i).toNat)
  case atStart => exact ⟨0, by omega, rfl, by simpa using B2.out⟩
  case round =>
    clear B2
    obtain ⟨k, hk, rfl, hP⟩ := hrel
    by_cases hlt : k < ks.length
    case pos =>
      as_aux_lemma =>
        obtain ⟨b, off, rfl, hbB, g0, g1, _, _⟩ := h1.kd hlt
        have hki := HKO.out _ (List.getElem_mem hlt)
        have hsn := hid (flat_snoc3 encKd ks k hlt)
        have hlt' : (k : Int) < ks.length := by omega
        have hlen := hid (show (a0 ++ ((ks.take k).map encKd).flatten).length ≤ 100000000 by
          rw [List.length_append]
          have := L0.out
          have := flat_take encKd ks k
          have := f1.out
          omega)
        generalize ks[k] = x at *
        obtain ⟨s1, n1⟩ := x
        simp only at g0 g1 hki
        obtain ⟨k0, k1⟩ := hki
        simp only at k0 k1
        have HP := hid hP
        clear hP
        obtain ⟨acc, hacc⟩ : ∃ acc, acc = a0 ++ ((ks.take k).map encKd).flatten := ⟨_, rfl⟩
        rw [← hacc] at HP hlen
        have Hacc := hid hacc
        clear hacc
        replace g0 := (bcell HP.out.below b _ hbB).trans g0
        replace g1 := (bcell HP.out.below b _ hbB).trans g1
        have hbz : b < wr.heap.size := by have := HP.out.below.size; omega
        go_upto_region 6 with fail
        generalize hwv : wr.alloc (Obj.cells #[.string s1, .int .i64 n1] 63) = wv
        have bx : Blk wv wr.heap.size 63 #[.string s1, .int .i64 n1] := by rw [← hwv]; exact Blk.new _ _ _
        have PV := hid (show BW w acc wv by rw [← hwv]; exact HP.out.alloc _)
        have x0 := bx.cell 0; have x1 := bx.cell 1
        simp at x0 x1
        have xz := bx.lt
        clear hwv g0 g1 HP
        have HI := hid (fun (n : Int) (hn : I64 n) (W' : World) (hW : Below wv.heap.size wv W') => wInt_any n hn W' (he.below (PV.out.below.trans (hW.mono PV.out.below.size))))
        have HTX := hid (fun (W' : World) (hW : Below wv.heap.size wv W') => wText_any s1 (by omega) W' (he.below (PV.out.below.trans (hW.mono PV.out.below.size))))
        have HWR := hid (fun (W' : World) (hW : Below wv.heap.size wv W') => show Calls Tryz.prog 67 #[.pointer (some ⟨w.heap.size, 0, none⟩), .string (bs (encT s1.data.toList) ++ bs (encI n1))] W' fun e w' => e = .returned (.tuple #[.int .i64 (bs (encKd (s1, n1))).size, .nilIface]) ∧ BW w (acc ++ encKd (s1, n1)) w' by
          rw [cat2k]
          exact BW.write (encKd (s1, n1)) (by have := hlen.out; have := encKd_le (s1, n1) ⟨k0, k1⟩; omega) W' (PV.out.step hW))
        have q1 := add2k s1 n1 k0 k1
        have HSF := hid (fun (wq : World) (hq : Below wv.heap.size wv wq) => (And.intro ((bcell hq _ _ xz).trans x0) ((bcell hq _ _ xz).trans x1)))
        have BD := hid ((Below.refl wv.heap.size wv).drew)
        clear x0 x1
        refine wpIn_wide.1 (wpIn_region_S (n := 0) (fun wq => Below wv.heap.size wv wq) [7] (by kernel_rfl) BD.out (fun hHeld => ?_))
        generalize wv.drew = wd at *
        refine wpAnyG_pure 0 (v := ?_) (fun _ => trivial) (by simp only [List.getElem?_toArray, List.getElem?_cons_succ, List.getElem?_cons_zero]; rfl) (by kernel_rfl) (fun _ _ _ _ _ h => h) ⟨(by rfl), (by intro c h; cases h), ?_⟩ hHeld ?_
        rotate_left
        focus (intro wS hSw; (try replace hSw := HSF.out wS hSw); (try dsimp only at hSw); go_simp; (try with_reducible rfl))
        (try simp only [Act.put, List.setIfInBounds_toArray, List.set_cons_zero, List.set_cons_succ])
        refine wpAnyG_take 1 (v := ?_) (fun _ => trivial) (by simp only [List.getElem?_toArray, List.getElem?_cons_succ, List.getElem?_cons_zero]; rfl) (by kernel_rfl) (fun _ _ _ _ _ h => h) ⟨(by rfl), (by intro c h; cases h), ?_⟩ hHeld ?_
        rotate_left
        focus (intro wS hSw; (try replace hSw := HSF.out wS hSw); (try dsimp only at hSw); go_simp; (try with_reducible rfl))
        (try simp only [Act.put, List.setIfInBounds_toArray, List.set_cons_zero, List.set_cons_succ])
        refine wpAnyG_pure 3 (v := ?_) (fun _ => trivial) (by simp only [List.getElem?_toArray, List.getElem?_cons_succ, List.getElem?_cons_zero]; rfl) (by kernel_rfl) (fun _ _ _ _ _ h => h) ⟨(by rfl), (by intro c h; cases h), ?_⟩ hHeld ?_
        rotate_left
        focus (intro wS hSw; (try replace hSw := HSF.out wS hSw); (try dsimp only at hSw); go_simp; (try with_reducible rfl))
        (try simp only [Act.put, List.setIfInBounds_toArray, List.set_cons_zero, List.set_cons_succ])
        refine wpAnyG_take 4 (v := ?_) (fun _ => trivial) (by simp only [List.getElem?_toArray, List.getElem?_cons_succ, List.getElem?_cons_zero]; rfl) (by kernel_rfl) (fun _ _ _ _ _ h => h) ⟨(by rfl), (by intro c h; cases h), ?_⟩ hHeld ?_
        rotate_left
        focus (intro wS hSw; (try replace hSw := HSF.out wS hSw); (try dsimp only at hSw); go_simp; (try with_reducible rfl))
        (try simp only [Act.put, List.setIfInBounds_toArray, List.set_cons_zero, List.set_cons_succ])
        refine wpAnyS_ready [2] (by kernel_rfl) (by simp) (AllReadyS.consG (by simp only [List.getElem?_toArray, List.getElem?_cons_succ, List.getElem?_cons_zero]; rfl) (by rfl) (fun K hK => ?_) AllReadyS.nil)
        refine callS (by intro c h; cases h) (by go_simp; try with_reducible rfl) (HTX.out _ BD.out) ?_
        intro w3 hBq
        have B3 := hid (BD.out.trans (hBq.mono BD.out.size))
        refine hK.out _ _ B3.out ?_
        (try simp only [Act.put, List.setIfInBounds_toArray, List.set_cons_zero, List.set_cons_succ])
        clear hK K hBq
        clear hHeld
        have hHeld := B3.out
        refine wpAnyS_ready [5] (by kernel_rfl) (by simp) (AllReadyS.consG (by simp only [List.getElem?_toArray, List.getElem?_cons_succ, List.getElem?_cons_zero]; rfl) (by rfl) (fun K hK => ?_) AllReadyS.nil)
        refine callS (by intro c h; cases h) (by go_simp; try with_reducible rfl) (HI.out n1 k1 _ B3.out) ?_
        intro w4 hBq
        have BL := hid (B3.out.trans (hBq.mono B3.out.size))
        refine hK.out _ _ BL.out ?_
        (try simp only [Act.put, List.setIfInBounds_toArray, List.set_cons_zero, List.set_cons_succ])
        clear hK K hBq
        clear hHeld
        have hHeld := BL.out
        refine wpAnyG_pure 6 (v := ?_) (fun _ => trivial) (by simp only [List.getElem?_toArray, List.getElem?_cons_succ, List.getElem?_cons_zero]; rfl) (by kernel_rfl) (fun _ _ _ _ _ h => h) ⟨(by rfl), (by intro c h; cases h), ?_⟩ hHeld ?_
        rotate_left
        focus (intro wS hSw; (try replace hSw := HSF.out wS hSw); (try dsimp only at hSw); go_simp; (try with_reducible rfl))
        (try simp only [Act.put, List.setIfInBounds_toArray, List.set_cons_zero, List.set_cons_succ])
        refine wpAnyS_ready [7] (by kernel_rfl) (by simp) (AllReadyS.consLG (by simp only [List.getElem?_toArray, List.getElem?_cons_succ, List.getElem?_cons_zero]; rfl) (by rfl) (by kernel_rfl) (fun K hK => ?_) AllReadyS.nil)
        refine callS (by intro c h; cases h) (by go_simp; try with_reducible rfl) (HWR.out _ BL.out) ?_
        intro w6 hB6
        have P6 := hid hB6
        clear hB6
        refine hK.out _ _ ?_
        (try simp only [Act.put, List.setIfInBounds_toArray, List.set_cons_zero, List.set_cons_succ])
        refine wpAnyS_done (by kernel_rfl) ?_
        clear hK K hHeld
        go_wp2_with fail
        go_roundw
        case rel => exact ⟨k + 1, by omega, by go_num, by rw [hsn.out, ← List.append_assoc, ← Hacc.out]; exact P6.out⟩
        case measure => simp [intOf]; omega
    case neg =>
      obtain rfl : k = ks.length := by omega
      rw [List.take_length] at hP
      clear hlt hk
      have PA := hid (show BW w a1 wr by rw [H1.out]; exact hP)
      clear hP
      have HN := hid (BW.num he lots.length (by omega) _ PA.out)
      have HW := hid (fun W hW => BW.write (w := w) (acc := a1) (encI lots.length) (by have := z2.out; have := L1.out; omega) W hW)
      rw [← H2.out] at HW
      have q0 : (bs (encI lots.length)).size ≤ 22 := by rw [bs_size]; exact z2.out
      go_wp2_with fail
      refine HN.out.mono ?_
      rintro e w1 ⟨rfl, hB1⟩
      have B1 := hid hB1
      clear hB1
      go_wp2_with fail
      refine (HW.out _ B1.out).mono ?_
      rintro e w2 ⟨rfl, hB2⟩
      have B5 := hid hB2
      clear hB2 B1 HN HW q0 PA
      go_wp2_with fail
      go_loopw [40] (fun i wr => ∃ k : Nat, k ≤ lots.length ∧ i = .int .i64 k ∧ BW w (a2 ++ ((lots.take k).map encLt).flatten) wr) (fun i _ => lots.length - (intOf i).toNat)
      case atStart => exact ⟨0, by omega, rfl, by simpa using B5.out⟩
      case round =>
        clear B5
        obtain ⟨k, hk, rfl, hP⟩ := hrel
        by_cases hlt : k < lots.length
        case pos =>
          as_aux_lemma =>
            obtain ⟨b, off, rfl, hbB, g0, g1, g2, k0, k1⟩ := h2.lt hlt
            have hsn := hid (flat_snoc3 encLt lots k hlt)
            have hlt' : (k : Int) < lots.length := by omega
            have hlen := hid (show (a2 ++ ((lots.take k).map encLt).flatten).length ≤ 100000000 by
              rw [List.length_append]
              have := L2.out
              have := flat_take encLt lots k
              have := f2.out
              omega)
            generalize lots[k] = x at *
            obtain ⟨n1, n2, fz⟩ := x
            simp only at g0 g1 g2 k0 k1
            have HP := hid hP
            clear hP
            obtain ⟨acc, hacc⟩ : ∃ acc, acc = a2 ++ ((lots.take k).map encLt).flatten := ⟨_, rfl⟩
            rw [← hacc] at HP hlen
            have Hacc := hid hacc
            clear hacc
            cases fz with
            | true =>
              replace hsn := hid (hsn.out.trans (show _ = (List.map encLt (List.take k lots)).flatten ++ enc3 (n1, n2, 1) from rfl))
              have k2 : I64 1 := ⟨by omega, by omega⟩
              replace g0 := (bcell HP.out.below b _ hbB).trans g0
              replace g1 := (bcell HP.out.below b _ hbB).trans g1
              replace g2 := (bcell HP.out.below b _ hbB).trans g2
              have hbz : b < wr.heap.size := by have := HP.out.below.size; omega
              go_upto_region 15 with fail
              generalize hwv : wr.alloc (Obj.cells #[.int .i64 n1, .int .i64 n2, .bool true] 40) = wv
              have bx : Blk wv wr.heap.size 40 #[.int .i64 n1, .int .i64 n2, .bool true] := by rw [← hwv]; exact Blk.new _ _ _
              have PV := hid (show BW w acc wv by rw [← hwv]; exact HP.out.alloc _)
              have x0 := bx.cell 0; have x1 := bx.cell 1
              simp at x0 x1
              have xz := bx.lt
              clear hwv g0 g1 g2 HP
              have HI := hid (fun (n : Int) (hn : I64 n) (W' : World) (hW : Below wv.heap.size wv W') => wInt_any n hn W' (he.below (PV.out.below.trans (hW.mono PV.out.below.size))))
              have HWR := hid (fun (W' : World) (hW : Below wv.heap.size wv W') => show Calls Tryz.prog 67 #[.pointer (some ⟨w.heap.size, 0, none⟩), .string (bs (encI n1) ++ bs (encI n2) ++ bs (encI 1))] W' fun e w' => e = .returned (.tuple #[.int .i64 (bs (enc3 (n1, n2, 1))).size, .nilIface]) ∧ BW w (acc ++ enc3 (n1, n2, 1)) w' by
                rw [cat3]
                exact BW.write (enc3 (n1, n2, 1)) (by have := hlen.out; have := enc3_le (n1, n2, 1) ⟨k0, k1, k2⟩; omega) W' (PV.out.step hW))
              obtain ⟨q1, q2, q3⟩ := add3 n1 n2 1 k0 k1 k2
              have HSF := hid (fun (wq : World) (hq : Below wv.heap.size wv wq) => (And.intro ((bcell hq _ _ xz).trans x0) ((bcell hq _ _ xz).trans x1)))
              have BD := hid ((Below.refl wv.heap.size wv).drew)
              clear x0 x1
              refine wpIn_wide.1 (wpIn_region_S (n := 0) (fun wq => Below wv.heap.size wv wq) [10] (by kernel_rfl) BD.out (fun hHeld => ?_))
              generalize wv.drew = wd at *
              refine wpAnyG_pure 0 (v := ?_) (fun _ => trivial) (by simp only [List.getElem?_toArray, List.getElem?_cons_succ, List.getElem?_cons_zero]; rfl) (by kernel_rfl) (fun _ _ _ _ _ h => h) ⟨(by rfl), (by intro c h; cases h), ?_⟩ hHeld ?_
              rotate_left
              focus (intro wS hSw; (try replace hSw := HSF.out wS hSw); (try dsimp only at hSw); go_simp; (try with_reducible rfl))
              (try simp only [Act.put, List.setIfInBounds_toArray, List.set_cons_zero, List.set_cons_succ])
              refine wpAnyG_take 1 (v := ?_) (fun _ => trivial) (by simp only [List.getElem?_toArray, List.getElem?_cons_succ, List.getElem?_cons_zero]; rfl) (by kernel_rfl) (fun _ _ _ _ _ h => h) ⟨(by rfl), (by intro c h; cases h), ?_⟩ hHeld ?_
              rotate_left
              focus (intro wS hSw; (try replace hSw := HSF.out wS hSw); (try dsimp only at hSw); go_simp; (try with_reducible rfl))
              (try simp only [Act.put, List.setIfInBounds_toArray, List.set_cons_zero, List.set_cons_succ])
              refine wpAnyG_pure 3 (v := ?_) (fun _ => trivial) (by simp only [List.getElem?_toArray, List.getElem?_cons_succ, List.getElem?_cons_zero]; rfl) (by kernel_rfl) (fun _ _ _ _ _ h => h) ⟨(by rfl), (by intro c h; cases h), ?_⟩ hHeld ?_
              rotate_left
              focus (intro wS hSw; (try replace hSw := HSF.out wS hSw); (try dsimp only at hSw); go_simp; (try with_reducible rfl))
              (try simp only [Act.put, List.setIfInBounds_toArray, List.set_cons_zero, List.set_cons_succ])
              refine wpAnyG_take 4 (v := ?_) (fun _ => trivial) (by simp only [List.getElem?_toArray, List.getElem?_cons_succ, List.getElem?_cons_zero]; rfl) (by kernel_rfl) (fun _ _ _ _ _ h => h) ⟨(by rfl), (by intro c h; cases h), ?_⟩ hHeld ?_
              rotate_left
              focus (intro wS hSw; (try replace hSw := HSF.out wS hSw); (try dsimp only at hSw); go_simp; (try with_reducible rfl))
              (try simp only [Act.put, List.setIfInBounds_toArray, List.set_cons_zero, List.set_cons_succ])
              refine wpAnyG_pure 7 (v := ?_) (fun _ => trivial) (by simp only [List.getElem?_toArray, List.getElem?_cons_succ, List.getElem?_cons_zero]; rfl) (by kernel_rfl) (fun _ _ _ _ _ h => h) ⟨(by rfl), (by intro c h; cases h), ?_⟩ hHeld ?_
              rotate_left
              focus (intro wS hSw; (try replace hSw := HSF.out wS hSw); (try dsimp only at hSw); go_simp; (try with_reducible rfl))
              (try simp only [Act.put, List.setIfInBounds_toArray, List.set_cons_zero, List.set_cons_succ])
              refine wpAnyS_ready [2] (by kernel_rfl) (by simp) (AllReadyS.consG (by simp only [List.getElem?_toArray, List.getElem?_cons_succ, List.getElem?_cons_zero]; rfl) (by rfl) (fun K hK => ?_) AllReadyS.nil)
              refine callS (by intro c h; cases h) (by go_simp; try with_reducible rfl) (HI.out n1 k0 _ BD.out) ?_
              intro w3 hBq
              have B3 := hid (BD.out.trans (hBq.mono BD.out.size))
              refine hK.out _ _ B3.out ?_
              (try simp only [Act.put, List.setIfInBounds_toArray, List.set_cons_zero, List.set_cons_succ])
              clear hK K hBq
              clear hHeld
              have hHeld := B3.out
              refine wpAnyS_ready [5] (by kernel_rfl) (by simp) (AllReadyS.consG (by simp only [List.getElem?_toArray, List.getElem?_cons_succ, List.getElem?_cons_zero]; rfl) (by rfl) (fun K hK => ?_) AllReadyS.nil)
              refine callS (by intro c h; cases h) (by go_simp; try with_reducible rfl) (HI.out n2 k1 _ B3.out) ?_
              intro w4 hBq
              have B4 := hid (B3.out.trans (hBq.mono B3.out.size))
              refine hK.out _ _ B4.out ?_
              (try simp only [Act.put, List.setIfInBounds_toArray, List.set_cons_zero, List.set_cons_succ])
              clear hK K hBq
              clear hHeld
              have hHeld := B4.out
              refine wpAnyG_pure 6 (v := ?_) (fun _ => trivial) (by simp only [List.getElem?_toArray, List.getElem?_cons_succ, List.getElem?_cons_zero]; rfl) (by kernel_rfl) (fun _ _ _ _ _ h => h) ⟨(by rfl), (by intro c h; cases h), ?_⟩ hHeld ?_
              rotate_left
              focus (intro wS hSw; (try replace hSw := HSF.out wS hSw); (try dsimp only at hSw); go_simp; (try with_reducible rfl))
              (try simp only [Act.put, List.setIfInBounds_toArray, List.set_cons_zero, List.set_cons_succ])
              refine wpAnyS_ready [8] (by kernel_rfl) (by simp) (AllReadyS.consG (by simp only [List.getElem?_toArray, List.getElem?_cons_succ, List.getElem?_cons_zero]; rfl) (by rfl) (fun K hK => ?_) AllReadyS.nil)
              refine callS (by intro c h; cases h) (by go_simp; try with_reducible rfl) (HI.out 1 k2 _ B4.out) ?_
              intro w5 hBq
              have BL := hid (B4.out.trans (hBq.mono B4.out.size))
              refine hK.out _ _ BL.out ?_
              (try simp only [Act.put, List.setIfInBounds_toArray, List.set_cons_zero, List.set_cons_succ])
              clear hK K hBq
              clear hHeld
              have hHeld := BL.out
              refine wpAnyG_pure 9 (v := ?_) (fun _ => trivial) (by simp only [List.getElem?_toArray, List.getElem?_cons_succ, List.getElem?_cons_zero]; rfl) (by kernel_rfl) (fun _ _ _ _ _ h => h) ⟨(by rfl), (by intro c h; cases h), ?_⟩ hHeld ?_
              rotate_left
              focus (intro wS hSw; (try replace hSw := HSF.out wS hSw); (try dsimp only at hSw); go_simp; (try with_reducible rfl))
              (try simp only [Act.put, List.setIfInBounds_toArray, List.set_cons_zero, List.set_cons_succ])
              refine wpAnyS_ready [10] (by kernel_rfl) (by simp) (AllReadyS.consLG (by simp only [List.getElem?_toArray, List.getElem?_cons_succ, List.getElem?_cons_zero]; rfl) (by rfl) (by kernel_rfl) (fun K hK => ?_) AllReadyS.nil)
              refine callS (by intro c h; cases h) (by go_simp; try with_reducible rfl) (HWR.out _ BL.out) ?_
              intro w6 hB6
              have P6 := hid hB6
              clear hB6
              refine hK.out _ _ ?_
              (try simp only [Act.put, List.setIfInBounds_toArray, List.set_cons_zero, List.set_cons_succ])
              refine wpAnyS_done (by kernel_rfl) ?_
              clear hK K hHeld
              go_wp2_with fail
              go_roundw
              case rel => exact ⟨k + 1, by omega, by go_num, by rw [hsn.out, ← List.append_assoc, ← Hacc.out]; exact P6.out⟩
              case measure => simp [intOf]; omega
            | false =>
              replace hsn := hid (hsn.out.trans (show _ = (List.map encLt (List.take k lots)).flatten ++ enc3 (n1, n2, 0) from rfl))
              have k2 : I64 0 := ⟨by omega, by omega⟩
              replace g0 := (bcell HP.out.below b _ hbB).trans g0
              replace g1 := (bcell HP.out.below b _ hbB).trans g1
              replace g2 := (bcell HP.out.below b _ hbB).trans g2
              have hbz : b < wr.heap.size := by have := HP.out.below.size; omega
              go_upto_region 15 with fail
              generalize hwv : wr.alloc (Obj.cells #[.int .i64 n1, .int .i64 n2, .bool false] 40) = wv
              have bx : Blk wv wr.heap.size 40 #[.int .i64 n1, .int .i64 n2, .bool false] := by rw [← hwv]; exact Blk.new _ _ _
              have PV := hid (show BW w acc wv by rw [← hwv]; exact HP.out.alloc _)
              have x0 := bx.cell 0; have x1 := bx.cell 1
              simp at x0 x1
              have xz := bx.lt
              clear hwv g0 g1 g2 HP
              have HI := hid (fun (n : Int) (hn : I64 n) (W' : World) (hW : Below wv.heap.size wv W') => wInt_any n hn W' (he.below (PV.out.below.trans (hW.mono PV.out.below.size))))
              have HWR := hid (fun (W' : World) (hW : Below wv.heap.size wv W') => show Calls Tryz.prog 67 #[.pointer (some ⟨w.heap.size, 0, none⟩), .string (bs (encI n1) ++ bs (encI n2) ++ bs (encI 0))] W' fun e w' => e = .returned (.tuple #[.int .i64 (bs (enc3 (n1, n2, 0))).size, .nilIface]) ∧ BW w (acc ++ enc3 (n1, n2, 0)) w' by
                rw [cat3]
                exact BW.write (enc3 (n1, n2, 0)) (by have := hlen.out; have := enc3_le (n1, n2, 0) ⟨k0, k1, k2⟩; omega) W' (PV.out.step hW))
              obtain ⟨q1, q2, q3⟩ := add3 n1 n2 0 k0 k1 k2
              have HSF := hid (fun (wq : World) (hq : Below wv.heap.size wv wq) => (And.intro ((bcell hq _ _ xz).trans x0) ((bcell hq _ _ xz).trans x1)))
              have BD := hid ((Below.refl wv.heap.size wv).drew)
              clear x0 x1
              refine wpIn_wide.1 (wpIn_region_S (n := 0) (fun wq => Below wv.heap.size wv wq) [10] (by kernel_rfl) BD.out (fun hHeld => ?_))
              generalize wv.drew = wd at *
              refine wpAnyG_pure 0 (v := ?_) (fun _ => trivial) (by simp only [List.getElem?_toArray, List.getElem?_cons_succ, List.getElem?_cons_zero]; rfl) (by kernel_rfl) (fun _ _ _ _ _ h => h) ⟨(by rfl), (by intro c h; cases h), ?_⟩ hHeld ?_
              rotate_left
              focus (intro wS hSw; (try replace hSw := HSF.out wS hSw); (try dsimp only at hSw); go_simp; (try with_reducible rfl))
              (try simp only [Act.put, List.setIfInBounds_toArray, List.set_cons_zero, List.set_cons_succ])
              refine wpAnyG_take 1 (v := ?_) (fun _ => trivial) (by simp only [List.getElem?_toArray, List.getElem?_cons_succ, List.getElem?_cons_zero]; rfl) (by kernel_rfl) (fun _ _ _ _ _ h => h) ⟨(by rfl), (by intro c h; cases h), ?_⟩ hHeld ?_
              rotate_left
              focus (intro wS hSw; (try replace hSw := HSF.out wS hSw); (try dsimp only at hSw); go_simp; (try with_reducible rfl))
              (try simp only [Act.put, List.setIfInBounds_toArray, List.set_cons_zero, List.set_cons_succ])
              refine wpAnyG_pure 3 (v := ?_) (fun _ => trivial) (by simp only [List.getElem?_toArray, List.getElem?_cons_succ, List.getElem?_cons_zero]; rfl) (by kernel_rfl) (fun _ _ _ _ _ h => h) ⟨(by rfl), (by intro c h; cases h), ?_⟩ hHeld ?_
              rotate_left
              focus (intro wS hSw; (try replace hSw := HSF.out wS hSw); (try dsimp only at hSw); go_simp; (try with_reducible rfl))
              (try simp only [Act.put, List.setIfInBounds_toArray, List.set_cons_zero, List.set_cons_succ])
              refine wpAnyG_take 4 (v := ?_) (fun _ => trivial) (by simp only [List.getElem?_toArray, List.getElem?_cons_succ, List.getElem?_cons_zero]; rfl) (by kernel_rfl) (fun _ _ _ _ _ h => h) ⟨(by rfl), (by intro c h; cases h), ?_⟩ hHeld ?_
              rotate_left
              focus (intro wS hSw; (try replace hSw := HSF.out wS hSw); (try dsimp only at hSw); go_simp; (try with_reducible rfl))
              (try simp only [Act.put, List.setIfInBounds_toArray, List.set_cons_zero, List.set_cons_succ])
              refine wpAnyG_pure 7 (v := ?_) (fun _ => trivial) (by simp only [List.getElem?_toArray, List.getElem?_cons_succ, List.getElem?_cons_zero]; rfl) (by kernel_rfl) (fun _ _ _ _ _ h => h) ⟨(by rfl), (by intro c h; cases h), ?_⟩ hHeld ?_
              rotate_left
              focus (intro wS hSw; (try replace hSw := HSF.out wS hSw); (try dsimp only at hSw); go_simp; (try with_reducible rfl))
              (try simp only [Act.put, List.setIfInBounds_toArray, List.set_cons_zero, List.set_cons_succ])
              refine wpAnyS_ready [2] (by kernel_rfl) (by simp) (AllReadyS.consG (by simp only [List.getElem?_toArray, List.getElem?_cons_succ, List.getElem?_cons_zero]; rfl) (by rfl) (fun K hK => ?_) AllReadyS.nil)
              refine callS (by intro c h; cases h) (by go_simp; try with_reducible rfl) (HI.out n1 k0 _ BD.out) ?_
              intro w3 hBq
              have B3 := hid (BD.out.trans (hBq.mono BD.out.size))
              refine hK.out _ _ B3.out ?_
              (try simp only [Act.put, List.setIfInBounds_toArray, List.set_cons_zero, List.set_cons_succ])
              clear hK K hBq
              clear hHeld
              have hHeld := B3.out
              refine wpAnyS_ready [5] (by kernel_rfl) (by simp) (AllReadyS.consG (by simp only [List.getElem?_toArray, List.getElem?_cons_succ, List.getElem?_cons_zero]; rfl) (by rfl) (fun K hK => ?_) AllReadyS.nil)
              refine callS (by intro c h; cases h) (by go_simp; try with_reducible rfl) (HI.out n2 k1 _ B3.out) ?_
              intro w4 hBq
              have B4 := hid (B3.out.trans (hBq.mono B3.out.size))
              refine hK.out _ _ B4.out ?_
              (try simp only [Act.put, List.setIfInBounds_toArray, List.set_cons_zero, List.set_cons_succ])
              clear hK K hBq
              clear hHeld
              have hHeld := B4.out
              refine wpAnyG_pure 6 (v := ?_) (fun _ => trivial) (by simp only [List.getElem?_toArray, List.getElem?_cons_succ, List.getElem?_cons_zero]; rfl) (by kernel_rfl) (fun _ _ _ _ _ h => h) ⟨(by rfl), (by intro c h; cases h), ?_⟩ hHeld ?_
              rotate_left
              focus (intro wS hSw; (try replace hSw := HSF.out wS hSw); (try dsimp only at hSw); go_simp; (try with_reducible rfl))
              (try simp only [Act.put, List.setIfInBounds_toArray, List.set_cons_zero, List.set_cons_succ])
              refine wpAnyS_ready [8] (by kernel_rfl) (by simp) (AllReadyS.consG (by simp only [List.getElem?_toArray, List.getElem?_cons_succ, List.getElem?_cons_zero]; rfl) (by rfl) (fun K hK => ?_) AllReadyS.nil)
              refine callS (by intro c h; cases h) (by go_simp; try with_reducible rfl) (HI.out 0 k2 _ B4.out) ?_
              intro w5 hBq
              have BL := hid (B4.out.trans (hBq.mono B4.out.size))
              refine hK.out _ _ BL.out ?_
              (try simp only [Act.put, List.setIfInBounds_toArray, List.set_cons_zero, List.set_cons_succ])
              clear hK K hBq
              clear hHeld
              have hHeld := BL.out
              refine wpAnyG_pure 9 (v := ?_) (fun _ => trivial) (by simp only [List.getElem?_toArray, List.getElem?_cons_succ, List.getElem?_cons_zero]; rfl) (by kernel_rfl) (fun _ _ _ _ _ h => h) ⟨(by rfl), (by intro c h; cases h), ?_⟩ hHeld ?_
              rotate_left
              focus (intro wS hSw; (try replace hSw := HSF.out wS hSw); (try dsimp only at hSw); go_simp; (try with_reducible rfl))
              (try simp only [Act.put, List.setIfInBounds_toArray, List.set_cons_zero, List.set_cons_succ])
              refine wpAnyS_ready [10] (by kernel_rfl) (by simp) (AllReadyS.consLG (by simp only [List.getElem?_toArray, List.getElem?_cons_succ, List.getElem?_cons_zero]; rfl) (by rfl) (by kernel_rfl) (fun K hK => ?_) AllReadyS.nil)
              refine callS (by intro c h; cases h) (by go_simp; try with_reducible rfl) (HWR.out _ BL.out) ?_
              intro w6 hB6
              have P6 := hid hB6
              clear hB6
              refine hK.out _ _ ?_
              (try simp only [Act.put, List.setIfInBounds_toArray, List.set_cons_zero, List.set_cons_succ])
              refine wpAnyS_done (by kernel_rfl) ?_
              clear hK K hHeld
              go_wp2_with fail
              go_roundw
              case rel => exact ⟨k + 1, by omega, by go_num, by rw [hsn.out, ← List.append_assoc, ← Hacc.out]; exact P6.out⟩
              case measure => simp [intOf]; omega
        case neg =>
          obtain rfl : k = lots.length := by omega
          rw [List.take_length] at hP
          clear hlt hk
          have PA := hid (show BW w a3 wr by rw [H3.out]; exact hP)
          clear hP
          have HN := hid (BW.num he bxs.length (by omega) _ PA.out)
          have HW := hid (fun W hW => BW.write (w := w) (acc := a3) (encI bxs.length) (by have := z3.out; have := L3.out; omega) W hW)
          rw [← H4.out] at HW
          have q0 : (bs (encI bxs.length)).size ≤ 22 := by rw [bs_size]; exact z3.out
          go_wp2_with fail
          refine HN.out.mono ?_
          rintro e w1 ⟨rfl, hB1⟩
          have B1 := hid hB1
          clear hB1
          go_wp2_with fail
          refine (HW.out _ B1.out).mono ?_
          rintro e w2 ⟨rfl, hB2⟩
          have B7 := hid hB2
          clear hB2 B1 HN HW q0 PA
          go_wp2_with fail
          go_loopw [64] (fun i wr => ∃ k : Nat, k ≤ bxs.length ∧ i = .int .i64 k ∧ BW w (a4 ++ ((bxs.take k).map enc3).flatten) wr) (fun i _ => bxs.length - (intOf i).toNat)
          case atStart => exact ⟨0, by omega, rfl, by simpa using B7.out⟩
          case round =>
            clear B7
            obtain ⟨k, hk, rfl, hP⟩ := hrel
            by_cases hlt : k < bxs.length
            case pos =>
              as_aux_lemma =>
                obtain ⟨b, off, rfl, hbB, g0, g1, g2, k0, k1, k2⟩ := h3.i3 hlt
                have hsn := hid (flat_snoc3 enc3 bxs k hlt)
                have hlt' : (k : Int) < bxs.length := by omega
                have hlen := hid (show (a4 ++ ((bxs.take k).map enc3).flatten).length ≤ 100000000 by
                  rw [List.length_append]
                  have := L4.out
                  have := flat_take enc3 bxs k
                  have := f3.out
                  omega)
                generalize bxs[k] = x at *
                obtain ⟨n1, n2, n3⟩ := x
                simp only at g0 g1 g2 k0 k1 k2
                have HP := hid hP
                clear hP
                obtain ⟨acc, hacc⟩ : ∃ acc, acc = a4 ++ ((bxs.take k).map enc3).flatten := ⟨_, rfl⟩
                rw [← hacc] at HP hlen
                have Hacc := hid hacc
                clear hacc
                replace g0 := (bcell HP.out.below b _ hbB).trans g0
                replace g1 := (bcell HP.out.below b _ hbB).trans g1
                replace g2 := (bcell HP.out.below b _ hbB).trans g2
                have hbz : b < wr.heap.size := by have := HP.out.below.size; omega
                go_upto_region 21 with fail
                generalize hwv : wr.alloc (Obj.cells #[.int .i64 n1, .int .i64 n2, .int .i64 n3] 45) = wv
                have bx : Blk wv wr.heap.size 45 #[.int .i64 n1, .int .i64 n2, .int .i64 n3] := by rw [← hwv]; exact Blk.new _ _ _
                have PV := hid (show BW w acc wv by rw [← hwv]; exact HP.out.alloc _)
                have x0 := bx.cell 0; have x1 := bx.cell 1; have x2 := bx.cell 2
                simp at x0 x1 x2
                have xz := bx.lt
                clear hwv g0 g1 g2 HP
                have HI := hid (fun (n : Int) (hn : I64 n) (W' : World) (hW : Below wv.heap.size wv W') => wInt_any n hn W' (he.below (PV.out.below.trans (hW.mono PV.out.below.size))))
                have HWR := hid (fun (W' : World) (hW : Below wv.heap.size wv W') => show Calls Tryz.prog 67 #[.pointer (some ⟨w.heap.size, 0, none⟩), .string (bs (encI n1) ++ bs (encI n2) ++ bs (encI n3))] W' fun e w' => e = .returned (.tuple #[.int .i64 (bs (enc3 (n1, n2, n3))).size, .nilIface]) ∧ BW w (acc ++ enc3 (n1, n2, n3)) w' by
                  rw [cat3]
                  exact BW.write (enc3 (n1, n2, n3)) (by have := hlen.out; have := enc3_le (n1, n2, n3) ⟨k0, k1, k2⟩; omega) W' (PV.out.step hW))
                obtain ⟨q1, q2, q3⟩ := add3 n1 n2 n3 k0 k1 k2
                have HSF := hid (fun (wq : World) (hq : Below wv.heap.size wv wq) => (And.intro ((bcell hq _ _ xz).trans x0) (And.intro ((bcell hq _ _ xz).trans x1) ((bcell hq _ _ xz).trans x2))))
                have BD := hid ((Below.refl wv.heap.size wv).drew)
                clear x0 x1 x2
                refine wpIn_wide.1 (wpIn_region_S (n := 0) (fun wq => Below wv.heap.size wv wq) [11] (by kernel_rfl) BD.out (fun hHeld => ?_))
                generalize wv.drew = wd at *
                refine wpAnyG_pure 0 (v := ?_) (fun _ => trivial) (by simp only [List.getElem?_toArray, List.getElem?_cons_succ, List.getElem?_cons_zero]; rfl) (by kernel_rfl) (fun _ _ _ _ _ h => h) ⟨(by rfl), (by intro c h; cases h), ?_⟩ hHeld ?_
                rotate_left
                focus (intro wS hSw; (try replace hSw := HSF.out wS hSw); (try dsimp only at hSw); go_simp; (try with_reducible rfl))
                (try simp only [Act.put, List.setIfInBounds_toArray, List.set_cons_zero, List.set_cons_succ])
                refine wpAnyG_take 1 (v := ?_) (fun _ => trivial) (by simp only [List.getElem?_toArray, List.getElem?_cons_succ, List.getElem?_cons_zero]; rfl) (by kernel_rfl) (fun _ _ _ _ _ h => h) ⟨(by rfl), (by intro c h; cases h), ?_⟩ hHeld ?_
                rotate_left
                focus (intro wS hSw; (try replace hSw := HSF.out wS hSw); (try dsimp only at hSw); go_simp; (try with_reducible rfl))
                (try simp only [Act.put, List.setIfInBounds_toArray, List.set_cons_zero, List.set_cons_succ])
                refine wpAnyG_pure 3 (v := ?_) (fun _ => trivial) (by simp only [List.getElem?_toArray, List.getElem?_cons_succ, List.getElem?_cons_zero]; rfl) (by kernel_rfl) (fun _ _ _ _ _ h => h) ⟨(by rfl), (by intro c h; cases h), ?_⟩ hHeld ?_
                rotate_left
                focus (intro wS hSw; (try replace hSw := HSF.out wS hSw); (try dsimp only at hSw); go_simp; (try with_reducible rfl))
                (try simp only [Act.put, List.setIfInBounds_toArray, List.set_cons_zero, List.set_cons_succ])
                refine wpAnyG_take 4 (v := ?_) (fun _ => trivial) (by simp only [List.getElem?_toArray, List.getElem?_cons_succ, List.getElem?_cons_zero]; rfl) (by kernel_rfl) (fun _ _ _ _ _ h => h) ⟨(by rfl), (by intro c h; cases h), ?_⟩ hHeld ?_
                rotate_left
                focus (intro wS hSw; (try replace hSw := HSF.out wS hSw); (try dsimp only at hSw); go_simp; (try with_reducible rfl))
                (try simp only [Act.put, List.setIfInBounds_toArray, List.set_cons_zero, List.set_cons_succ])
                refine wpAnyG_pure 7 (v := ?_) (fun _ => trivial) (by simp only [List.getElem?_toArray, List.getElem?_cons_succ, List.getElem?_cons_zero]; rfl) (by kernel_rfl) (fun _ _ _ _ _ h => h) ⟨(by rfl), (by intro c h; cases h), ?_⟩ hHeld ?_
                rotate_left
                focus (intro wS hSw; (try replace hSw := HSF.out wS hSw); (try dsimp only at hSw); go_simp; (try with_reducible rfl))
                (try simp only [Act.put, List.setIfInBounds_toArray, List.set_cons_zero, List.set_cons_succ])
                refine wpAnyG_take 8 (v := ?_) (fun _ => trivial) (by simp only [List.getElem?_toArray, List.getElem?_cons_succ, List.getElem?_cons_zero]; rfl) (by kernel_rfl) (fun _ _ _ _ _ h => h) ⟨(by rfl), (by intro c h; cases h), ?_⟩ hHeld ?_
                rotate_left
                focus (intro wS hSw; (try replace hSw := HSF.out wS hSw); (try dsimp only at hSw); go_simp; (try with_reducible rfl))
                (try simp only [Act.put, List.setIfInBounds_toArray, List.set_cons_zero, List.set_cons_succ])
                refine wpAnyS_ready [2] (by kernel_rfl) (by simp) (AllReadyS.consG (by simp only [List.getElem?_toArray, List.getElem?_cons_succ, List.getElem?_cons_zero]; rfl) (by rfl) (fun K hK => ?_) AllReadyS.nil)
                refine callS (by intro c h; cases h) (by go_simp; try with_reducible rfl) (HI.out n1 k0 _ BD.out) ?_
                intro w3 hBq
                have B3 := hid (BD.out.trans (hBq.mono BD.out.size))
                refine hK.out _ _ B3.out ?_
                (try simp only [Act.put, List.setIfInBounds_toArray, List.set_cons_zero, List.set_cons_succ])
                clear hK K hBq
                clear hHeld
                have hHeld := B3.out
                refine wpAnyS_ready [5] (by kernel_rfl) (by simp) (AllReadyS.consG (by simp only [List.getElem?_toArray, List.getElem?_cons_succ, List.getElem?_cons_zero]; rfl) (by rfl) (fun K hK => ?_) AllReadyS.nil)
                refine callS (by intro c h; cases h) (by go_simp; try with_reducible rfl) (HI.out n2 k1 _ B3.out) ?_
                intro w4 hBq
                have B4 := hid (B3.out.trans (hBq.mono B3.out.size))
                refine hK.out _ _ B4.out ?_
                (try simp only [Act.put, List.setIfInBounds_toArray, List.set_cons_zero, List.set_cons_succ])
                clear hK K hBq
                clear hHeld
                have hHeld := B4.out
                refine wpAnyG_pure 6 (v := ?_) (fun _ => trivial) (by simp only [List.getElem?_toArray, List.getElem?_cons_succ, List.getElem?_cons_zero]; rfl) (by kernel_rfl) (fun _ _ _ _ _ h => h) ⟨(by rfl), (by intro c h; cases h), ?_⟩ hHeld ?_
                rotate_left
                focus (intro wS hSw; (try replace hSw := HSF.out wS hSw); (try dsimp only at hSw); go_simp; (try with_reducible rfl))
                (try simp only [Act.put, List.setIfInBounds_toArray, List.set_cons_zero, List.set_cons_succ])
                refine wpAnyS_ready [9] (by kernel_rfl) (by simp) (AllReadyS.consG (by simp only [List.getElem?_toArray, List.getElem?_cons_succ, List.getElem?_cons_zero]; rfl) (by rfl) (fun K hK => ?_) AllReadyS.nil)
                refine callS (by intro c h; cases h) (by go_simp; try with_reducible rfl) (HI.out n3 k2 _ B4.out) ?_
                intro w5 hBq
                have BL := hid (B4.out.trans (hBq.mono B4.out.size))
                refine hK.out _ _ BL.out ?_
                (try simp only [Act.put, List.setIfInBounds_toArray, List.set_cons_zero, List.set_cons_succ])
                clear hK K hBq
                clear hHeld
                have hHeld := BL.out
                refine wpAnyG_pure 10 (v := ?_) (fun _ => trivial) (by simp only [List.getElem?_toArray, List.getElem?_cons_succ, List.getElem?_cons_zero]; rfl) (by kernel_rfl) (fun _ _ _ _ _ h => h) ⟨(by rfl), (by intro c h; cases h), ?_⟩ hHeld ?_
                rotate_left
                focus (intro wS hSw; (try replace hSw := HSF.out wS hSw); (try dsimp only at hSw); go_simp; (try with_reducible rfl))
                (try simp only [Act.put, List.setIfInBounds_toArray, List.set_cons_zero, List.set_cons_succ])
                refine wpAnyS_ready [11] (by kernel_rfl) (by simp) (AllReadyS.consLG (by simp only [List.getElem?_toArray, List.getElem?_cons_succ, List.getElem?_cons_zero]; rfl) (by rfl) (by kernel_rfl) (fun K hK => ?_) AllReadyS.nil)
                refine callS (by intro c h; cases h) (by go_simp; try with_reducible rfl) (HWR.out _ BL.out) ?_
                intro w6 hB6
                have P6 := hid hB6
                clear hB6
                refine hK.out _ _ ?_
                (try simp only [Act.put, List.setIfInBounds_toArray, List.set_cons_zero, List.set_cons_succ])
                refine wpAnyS_done (by kernel_rfl) ?_
                clear hK K hHeld
                go_wp2_with fail
                go_roundw
                case rel => exact ⟨k + 1, by omega, by go_num, by rw [hsn.out, ← List.append_assoc, ← Hacc.out]; exact P6.out⟩
                case measure => simp [intOf]; omega
            case neg =>
              obtain rfl : k = bxs.length := by omega
              rw [List.take_length] at hP
              clear hlt hk
              go_wp2_with fail
              refine (BW.str _ hP).mono ?_
              rintro e w9 ⟨rfl, hB⟩
              go_wp2_with fail
              go_ret
              exact ⟨ret_str (by rw [HEND.out]), hB⟩
end Go.Proofs.YtfpehakllnkaeaaGreatDoor
