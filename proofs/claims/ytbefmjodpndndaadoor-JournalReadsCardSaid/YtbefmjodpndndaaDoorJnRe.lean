
/- Journal: JournalReads, the walk. -/
import Derived.Test.YtbefmjodpndndaaDoorJoH
import Derived.Deep.CutBlock
set_option linter.unusedSimpArgs false
set_option linter.unusedVariables false
namespace Go.Proofs.YtbefmjodpndndaaDoor
open Go.RowKit Go.IntWalk

/-- The disk after the law's three writes. -/
structure RS4 (w0 w : World) (b : Nat) (L : DL) (s : DS) (N : Nat) (l7 l8 : Bs) : Prop where
  D : Dsk w w0.heap.size b L s N
  B : Below w0.heap.size w0 w
  E : EB w0.heap.size w
  c : Calm s
  f7 : (s.fl 7).1 = l7
  f8 : (s.fl 8).1 = l8
theorem RS4.below {w0 w w' : World} {b : Nat} {L : DL} {s : DS} {N : Nat} {l7 l8 : Bs} (h : RS4 w0 w b L s N l7 l8) (hb : Below w.heap.size w w') : RS4 w0 w' b L s N l7 l8 := ⟨h.D.below hb, h.B.trans (hb.mono h.B.size), h.E.below hb, h.c, h.f7, h.f8⟩
theorem rs_write {w0 w : World} {b : Nat} {L : DL} {s : DS} {N : Nat} {l7 l8 : Bs} (h : RS4 w0 w b L s N l7 l8) (f : Int) (p : Nat) (t : Bs) (hf : f = 7 ∨ f = 8) (hp : p + t.length ≤ 16777216) (hN : N + 2 * t.length + 5 ≤ 50000000) :
    Calls Tryd.prog 10 #[.pointer (some ⟨b, 0, none⟩), .int .i64 f, .int .i64 (p : Int), .string (bs t)] w fun e w' => e = .returned (.int .i64 0) ∧ ∃ L' s', RS4 w0 w' b L' s' (N + 2 * t.length + 5) (if f = 7 then putL l7 p t else l7) (if f = 8 then putL l8 p t else l8) := by
  refine (dwrite_any b _ L s N f p t w h.D (by omega) hp hN h.B.size).mono ?_
  rintro e w' ⟨L', s', ⟨ec, rfl, hw⟩, hD, hC, -⟩
  obtain ⟨h1, h2, h3, h4⟩ := hw.spec h.c.2.2
  obtain ⟨rfl, hc⟩ := h4 h.c
  have hfl := (h2 rfl).2
  refine ⟨rfl, L', s', hD, hC.low h.B (fun k hk => (h.D.lt hk).1), h.E.dsk h.D hC, hc, ?_, ?_⟩
  · rw [hfl]
    unfold wrS
    simp only
    by_cases hf7 : f = 7
    · subst hf7
      simp [h.f7]
    · rw [if_neg (fun e => hf7 e.symm), if_neg hf7]
      exact h.f7
  · rw [hfl]
    unfold wrS
    simp only
    by_cases hf8 : f = 8
    · subst hf8
      simp [h.f8]
    · rw [if_neg (fun e => hf8 e.symm), if_neg hf8]
      exact h.f8
theorem open_read (v log : Bs) : openF 1 v log = if (numsF v).2.2 = true ∧ (numsF v).1.toNat ≤ log.length ∧ readB (log.take (numsF v).1.toNat) (numsF v).2.1.toNat = true then some (readL (log.take (numsF v).1.toNat) (numsF v).2.1.toNat) else none := by
  unfold openF
  have e1 : numsA 1 v = numsF v := by unfold numsA; exact if_neg (by omega)
  rw [e1, List.length_take]
  have hiff : ((numsF v).2.2 = true ∧ readB (log.take (numsF v).1.toNat) (numsF v).2.1.toNat = true ∧ min (numsF v).1.toNat log.length = (numsF v).1.toNat) ↔ ((numsF v).2.2 = true ∧ (numsF v).1.toNat ≤ log.length ∧ readB (log.take (numsF v).1.toNat) (numsF v).2.1.toNat = true) := by
    constructor
    · rintro ⟨a, b, c⟩; exact ⟨a, by omega, b⟩
    · rintro ⟨a, b, c⟩; exact ⟨a, c, by omega⟩
  by_cases h : (numsF v).2.2 = true ∧ (numsF v).1.toNat ≤ log.length ∧ readB (log.take (numsF v).1.toNat) (numsF v).2.1.toNat = true
  · rw [if_pos (hiff.2 h), if_pos h]
  · rw [if_neg (fun e => h (hiff.1 e)), if_neg h]
theorem putL_empty (t : Bs) : putL [] 0 t = t := by
  unfold putL
  split
  · rename_i h; exact h.symm
  · simp
theorem hdr_conv (w : World) (vn : Nat) (h : vn ≤ 300) : (convert 29 9 (.slice (some ⟨w.heap.size, 0, none⟩) 5 5)).run Tryd.prog (w.alloc (Obj.cells #[Value.int .u8 1, Value.int .u8 ((vn : Int) % 256), Value.int .u8 ((vn : Int) / 256), Value.int .u8 0, Value.int .u8 0] 5)) = .ok (.string (bs (hdr 1 vn))) (w.alloc (Obj.cells #[Value.int .u8 1, Value.int .u8 ((vn : Int) % 256), Value.int .u8 ((vn : Int) / 256), Value.int .u8 0, Value.int .u8 0] 5)) := by
  refine run_convert_bytes_back (P := Tryd.prog) _ 29 9 5 ⟨w.heap.size, 0, none⟩ 5 (hdr 1 vn) Tryd.underlying29 Tryd.underlying5 Tryd.underlying9 (fun j hj => ?_)
  rw [addr_at, Nat.zero_add, (Blk.new w 5 _).cell]
  rw [hdr_len] at hj
  have h1 : vn / 65536 = 0 := by omega
  have h2 : vn / 16777216 = 0 := by omega
  have h3 : vn / 256 % 256 = vn / 256 := by omega
  have : j = 0 ∨ j = 1 ∨ j = 2 ∨ j = 3 ∨ j = 4 := by omega
  rcases this with rfl | rfl | rfl | rfl | rfl <;> simp [hdr, UInt8.toNat_ofNat', h1, h2, h3]
set_option maxRecDepth 100000 in
set_option maxHeartbeats 4000000 in
theorem jreads_any (sl sr : ByteArray) (n1 n2 : Int) (w : World) (hl : sl.size ≤ maxLen) (hr : sr.size ≤ maxLen) (hn1 : I64 n1) (hn2 : I64 n2) (he : Env w) (hO : OffE w) :
    Calls Tryd.prog 3 #[.string sl, .int .i64 n1, .int .i64 n2, .string sr] w fun e w' => e = .returned (.bool true) ∧ Below w.heap.size w w' := by
  have HSM := hid (jsmall_any w he hO)
  have HEB := hid (EB.of he hO)
  have HI1 := hid hn1; have HI2 := hid hn2
  obtain ⟨log, hlog⟩ : ∃ log, log = sl.data.toList := ⟨_, rfl⟩
  obtain ⟨raw, hraw⟩ : ∃ raw, raw = sr.data.toList := ⟨_, rfl⟩
  have e1 : sl = bs log := by rw [hlog, bs_of]
  have e2 : sr = bs raw := by rw [hraw, bs_of]
  subst e1 e2
  rw [bs_size] at hl hr
  unfold maxLen at hl hr
  have hz1 := bs_size log
  have hz2 := bs_size raw
  clear he hO hn1 hn2 hlog hraw
  go_enter Tryd.func3, Tryd.ntmps3
  go_wp2_with fail
  refine HSM.out.mono ?_
  rintro e w1 ⟨rfl, hB⟩
  have B1 := hid hB
  clear hB HSM
  by_cases h1 : 300 < log.length
  · have h1I : (300 : Int) < (log.length : Int) := by omega
    go_wp2_with fail
    go_ret
    exact ⟨rfl, B1.out⟩
  have h1I : ¬ (300 : Int) < (log.length : Int) := by omega
  by_cases h2 : 300 < raw.length
  · have h2I : (300 : Int) < (raw.length : Int) := by omega
    go_wp2_with fail
    go_ret
    exact ⟨rfl, B1.out⟩
  have h2I : ¬ (300 : Int) < (raw.length : Int) := by omega
  by_cases h3 : 400 < n2
  · go_wp2_with fail
    go_ret
    exact ⟨rfl, B1.out⟩
  go_wp2_with fail
  refine (dnew_any w1).mono ?_
  rintro e w2 ⟨b, L0, rfl, hD, hB⟩
  have R2 := hid (show RS4 w w2 b L0 ds0 0 [] [] from ⟨hD.low_ B1.out.size, B1.out.trans (hB.mono B1.out.size), HEB.out.below (B1.out.trans (hB.mono B1.out.size)), calm_new, rfl, rfl⟩)
  clear hD hB B1
  go_upto_if 40 with fail
  go_cut [11] (fun tv wx => ∃ val : Bs, tv = .string (bs val) ∧ val.length ≤ 300 ∧ val ≠ [] ∧ Below w2.heap.size w2 wx)
  case first =>
    as_aux_lemma =>
      by_cases hr0 : raw = []
      · subst hr0
        have hI1 := hid (calls_int n1 HI1.out w.heap.size w2 R2.out.E)
        have hI2 := hid (calls_int n2 HI2.out w.heap.size w2 R2.out.E)
        have l1 := encI_le22 n1 HI1.out
        have l2 := encI_le22 n2 HI2.out
        have hs1 := sz22 n1 HI1.out
        have hs2 := sz22 n2 HI2.out
        have hov : ¬ 9223372036854775807 < (bs (encI n1)).size + (bs (encI n2)).size := by omega
        have hcat := bs_app (encI n1) (encI n2)
        have he0 : (bs []).toList.isEmpty = true := by rw [bs_tl]; rfl
        rw [he0]
        clear he0
        go_wp2_with fail
        refine (hI1.out w2 (Below.refl _ _)).mono ?_
        rintro e w3 ⟨rfl, hB⟩
        have B3 := hid hB
        clear hB
        go_wp2_with fail
        refine (hI2.out w3 B3.out).mono ?_
        rintro e w4 ⟨rfl, hB⟩
        have B4 := hid (B3.out.trans (hB.mono B3.out.size))
        clear hB
        go_wp2_with fail
        go_meet
        exact ⟨encI n1 ++ encI n2, by first | rfl | rw [hcat], by rw [List.length_append]; omega, by simp [encI_ne], B4.out⟩
      · have he0 : (bs raw).toList.isEmpty = false := by rw [bs_tl]; simp [hr0]
        rw [he0]
        clear he0
        have HR0 := hid hr0
        go_wp2_with fail
        go_meet
        exact ⟨raw, rfl, by omega, HR0.out, Below.refl _ _⟩
  case rest =>
  obtain ⟨val, rfl, hv1, hv2, hB⟩ := hcut
  have HV2 := hid hv2
  have R3 := hid (R2.out.below hB)
  clear hv2 hB R2
  generalize wc = w3 at *
  have HW1 := hid (show Calls Tryd.prog 10 #[.pointer (some ⟨b, 0, none⟩), .int .i64 7, .int .i64 0, .string (bs log)] w3 fun e w' => e = .returned (.int .i64 0) ∧ ∃ L' s', RS4 w w' b L' s' (0 + 2 * log.length + 5) (putL [] 0 log) [] from rs_write R3.out 7 0 log (.inl rfl) (by omega) (by omega))
  go_wp2_with fail
  refine HW1.out.mono ?_
  rintro e w4 ⟨rfl, L4, s4, hR⟩
  have R4 := hid hR
  have HW2 := hid (show Calls Tryd.prog 10 #[.pointer (some ⟨b, 0, none⟩), .int .i64 8, .int .i64 64, .string (bs val)] w4 fun e w' => e = .returned (.int .i64 0) ∧ ∃ L' s', RS4 w w' b L' s' (0 + 2 * log.length + 5 + 2 * val.length + 5) (putL [] 0 log) (putL [] 64 val) from rs_write hR 8 64 val (.inr rfl) (by omega) (by omega))
  clear hR HW1 R3
  go_wp2_with fail
  refine HW2.out.mono ?_
  rintro e w5 ⟨rfl, L5, s5, hR⟩
  have R5 := hid hR
  clear hR HW2 R4
  have hz3 := bs_size val
  obtain ⟨vn, hvn⟩ : ∃ vn, vn = val.length := ⟨_, rfl⟩
  rw [← hvn] at hz3 hv1
  have HVN := hid hvn
  clear hvn
  have hcv := hdr_conv w5 vn hv1
  have B6 := hid (show Below w5.heap.size w5 (w5.alloc (Obj.cells #[Value.int .u8 1, Value.int .u8 ((vn : Int) % 256), Value.int .u8 ((vn : Int) / 256), Value.int .u8 0, Value.int .u8 0] 5)) by (repeat (first | exact Below.refl _ _ | assumption | refine below_drewN ?_ _ | refine Below.drew ?_ | refine Below.alloc ?_ (by (try simp); (try omega)) _ | refine Below.setCell ?_ (by (try simp); (try omega)) _)))
  have hw3 := rs_write (R5.out.below B6.out) 8 0 (hdr 1 vn) (.inr rfl) (by rw [hdr_len]; omega) (by rw [hdr_len]; rw [← HVN.out]; omega)
  simp only [if_true] at hw3
  have HW3 := hid (show Calls Tryd.prog 10 #[.pointer (some ⟨b, 0, none⟩), .int .i64 8, .int .i64 0, .string (bs (hdr 1 vn))] (w5.alloc (Obj.cells #[Value.int .u8 1, Value.int .u8 ((vn : Int) % 256), Value.int .u8 ((vn : Int) / 256), Value.int .u8 0, Value.int .u8 0] 5)) fun e w' => e = .returned (.int .i64 0) ∧ ∃ L' s', RS4 w w' b L' s' 10000 log (putL (putL [] 64 val) 0 (hdr 1 vn)) from hw3.mono fun e w' ⟨h1, L', s', h2⟩ => ⟨h1, L', s', ⟨h2.D.mono (by rw [hdr_len]; rw [← HVN.out]; omega), h2.B, h2.E, h2.c, by rw [h2.f7]; simp [putL_empty], h2.f8⟩⟩)
  clear hw3
  go_wp2_with fail
  refine HW3.out.mono ?_
  rintro e w7 ⟨rfl, L7, s7, hR⟩
  have hcs : CellSays (s7.fl (7 + 1)).1 1 val := by
    have := says_header (c := putL [] 64 val) (slot := 1) (v' := val) (.inl rfl) (by rw [← HVN.out]; omega) (Has.put [] 64 val (fun e => absurd e HV2.out))
    rw [← HVN.out] at this
    rw [show (7 : Int) + 1 = 8 from rfl, hR.f8]
    exact this
  have HOP := hid (jopen_any b w.heap.size L7 s7 10000 7 1 val w7 hR.D hR.E hR.c.2.2 (by omega) (by omega) hcs (by omega) hR.B.size)
  have R7 := hid hR
  clear hR hcs HW3 R5 B6 hcv
  go_wp2_with fail
  refine HOP.out.mono ?_
  rintro e w8 ⟨L8, s8, hD8, hC8, -, -, hres⟩
  have B8 := hid (hC8.low R7.out.B (fun k hk => (R7.out.D.lt hk).1))
  have E8 := hid (R7.out.E.dsk R7.out.D hC8)
  rcases hres with ⟨ec, _, h, _⟩ | ⟨-, hm⟩
  · exact absurd R7.out.c h
  rw [R7.out.f7, open_read] at hm
  clear hD8 hC8 HOP
  -- the two numbers
  unfold numsF at hm
  obtain ⟨a1, s1, hr1⟩ : ∃ n s, rN (val, false) = (n, s) := ⟨_, _, rfl⟩
  have d1 := rNum_f (val, false) (by simp only; rw [← HVN.out]; omega)
  have l1 := rN_le (val, false)
  have b1 := rN_bd (val, false)
  rw [hr1] at d1 l1 b1 hm
  simp only at d1 l1 b1 hm
  obtain ⟨a2, s2, hr2⟩ : ∃ n s, rN s1 = (n, s) := ⟨_, _, rfl⟩
  have d2 := rNum_f s1 (by rw [← HVN.out] at l1; omega)
  have b2 := rN_bd s1
  rw [hr2] at d2 b2 hm
  simp only at d2 b2 hm
  obtain ⟨m1, rfl⟩ := Int.eq_ofNat_of_zero_le b1.1
  obtain ⟨m2, rfl⟩ := Int.eq_ofNat_of_zero_le b2.1
  have hm1 : m1 ≤ 9223372036854775807 := by have := b1.2.2; omega
  have hm2 : m2 ≤ 9223372036854775807 := by have := b2.2.2; omega
  simp only [Int.toNat_natCast] at hm
  obtain ⟨q3, hq3⟩ : ∃ q, q = (!s2.2 && s2.1.isEmpty) := ⟨_, rfl⟩
  rw [← hq3] at hm
  have HQ3 := hid hq3
  have C1 := hid d1
  have C2 := hid d2
  have HTV := hid (toList_bs val)
  clear hr1 hr2 d1 d2 l1 b1 b2 hq3 R7
  by_cases hq : q3 = true ∧ m1 ≤ log.length
  case neg =>
    rw [if_neg (fun h => hq ⟨h.1, h.2.1⟩)] at hm
    have hm : e = .returned (.tuple #[.pointer none, .int .i64 2]) := hm
    subst hm
    cases q3 with
    | false =>
      as_aux_lemma =>
        go_wp2_with fail
        refine (open_any (bs val) w8).mono ?_
        rintro e w9 ⟨rfl, hR, hB⟩
        rw [HTV.out] at hR
        have R9 := hid hR
        have B9 := hid hB
        have E9 := hid (E8.out.below hB)
        clear hB hR
        obtain ⟨rb, hrbe⟩ : ∃ rb, rb = w8.heap.size := ⟨_, rfl⟩
        rw [← hrbe] at R9 ⊢
        have HRB := hid hrbe
        clear hrbe
        go_wp2_with fail
        refine (C1.out rb w9 R9.out E9.out.env).mono ?_
        rintro e w10 ⟨rfl, hR, hg⟩
        have R10 := hid hR
        have B10 := hid (bg B9.out hg (by rw [HRB.out]; exact Nat.le_refl _))
        have E10 := hid (E8.out.below B10.out)
        clear hg hR
        go_wp2_with fail
        refine (C2.out rb w10 R10.out E10.out.env).mono ?_
        rintro e w11 ⟨rfl, hR, hg⟩
        have R11 := hid hR
        have B11 := hid (bg B10.out hg (by rw [HRB.out]; exact Nat.le_refl _))
        have hdn := done_any rb s2.1 s2.2 w11 R11.out
        rw [← HQ3.out] at hdn
        have HDN := hid hdn
        clear hg hR hdn R9 R10 B9 B10 E9 E10
        go_wp2_with fail
        refine HDN.out.mono ?_
        rintro e w12 ⟨rfl, hB⟩
        have B12 := hid (B11.out.trans (hB.mono B11.out.size))
        clear hB HDN B11 R11

        have BX := B12.out

        go_wp2_with fail
        go_ret
        exact ⟨rfl, B8.out.trans (BX.mono B8.out.size)⟩
    | true =>
      have hgt : ¬ (m1 : Int) ≤ (log.length : Int) := fun h => hq ⟨rfl, by omega⟩
      as_aux_lemma =>
        go_wp2_with fail
        refine (open_any (bs val) w8).mono ?_
        rintro e w9 ⟨rfl, hR, hB⟩
        rw [HTV.out] at hR
        have R9 := hid hR
        have B9 := hid hB
        have E9 := hid (E8.out.below hB)
        clear hB hR
        obtain ⟨rb, hrbe⟩ : ∃ rb, rb = w8.heap.size := ⟨_, rfl⟩
        rw [← hrbe] at R9 ⊢
        have HRB := hid hrbe
        clear hrbe
        go_wp2_with fail
        refine (C1.out rb w9 R9.out E9.out.env).mono ?_
        rintro e w10 ⟨rfl, hR, hg⟩
        have R10 := hid hR
        have B10 := hid (bg B9.out hg (by rw [HRB.out]; exact Nat.le_refl _))
        have E10 := hid (E8.out.below B10.out)
        clear hg hR
        go_wp2_with fail
        refine (C2.out rb w10 R10.out E10.out.env).mono ?_
        rintro e w11 ⟨rfl, hR, hg⟩
        have R11 := hid hR
        have B11 := hid (bg B10.out hg (by rw [HRB.out]; exact Nat.le_refl _))
        have hdn := done_any rb s2.1 s2.2 w11 R11.out
        rw [← HQ3.out] at hdn
        have HDN := hid hdn
        clear hg hR hdn R9 R10 B9 B10 E9 E10
        go_wp2_with fail
        refine HDN.out.mono ?_
        rintro e w12 ⟨rfl, hB⟩
        have B12 := hid (B11.out.trans (hB.mono B11.out.size))
        clear hB HDN B11 R11

        have BX := B12.out

        go_wp2_with fail
        go_ret
        exact ⟨rfl, B8.out.trans (BX.mono B8.out.size)⟩
  case pos =>
    obtain ⟨hq1, hq2⟩ := hq
    subst hq1
    obtain ⟨rbv, hrb⟩ : ∃ r, readB (log.take m1) m2 = r := ⟨_, rfl⟩
    cases rbv with
    | false =>
      rw [if_neg (fun h => by rw [hrb] at h; simp at h)] at hm
      have hm : e = .returned (.tuple #[.pointer none, .int .i64 2]) := hm
      subst hm
      as_aux_lemma =>
        have hle : (m1 : Int) ≤ (log.length : Int) := by omega
        have hmin : min (m1 : Int) (log.length : Int) = (m1 : Int) := by omega
        have hex : (bs log).extract 0 m1 = bs (log.take m1) := by rw [bs_extract, List.drop_zero]

        go_wp2_with fail
        refine (open_any (bs val) w8).mono ?_
        rintro e w9 ⟨rfl, hR, hB⟩
        rw [HTV.out] at hR
        have R9 := hid hR
        have B9 := hid hB
        have E9 := hid (E8.out.below hB)
        clear hB hR
        obtain ⟨rb, hrbe⟩ : ∃ rb, rb = w8.heap.size := ⟨_, rfl⟩
        rw [← hrbe] at R9 ⊢
        have HRB := hid hrbe
        clear hrbe
        go_wp2_with fail
        refine (C1.out rb w9 R9.out E9.out.env).mono ?_
        rintro e w10 ⟨rfl, hR, hg⟩
        have R10 := hid hR
        have B10 := hid (bg B9.out hg (by rw [HRB.out]; exact Nat.le_refl _))
        have E10 := hid (E8.out.below B10.out)
        clear hg hR
        go_wp2_with fail
        refine (C2.out rb w10 R10.out E10.out.env).mono ?_
        rintro e w11 ⟨rfl, hR, hg⟩
        have R11 := hid hR
        have B11 := hid (bg B10.out hg (by rw [HRB.out]; exact Nat.le_refl _))
        have hdn := done_any rb s2.1 s2.2 w11 R11.out
        rw [← HQ3.out] at hdn
        have HDN := hid hdn
        clear hg hR hdn R9 R10 B9 B10 E9 E10
        go_wp2_with fail
        refine HDN.out.mono ?_
        rintro e w12 ⟨rfl, hB⟩
        have B12 := hid (B11.out.trans (hB.mono B11.out.size))
        clear hB HDN B11 R11

        have HEX := hid hex
        go_upto_region 24 with fail
        clear hle
        go_wp2_with fail
        obtain ⟨sl, hsl⟩ : ∃ sl, sl = log.take m1 := ⟨_, rfl⟩
        rw [← hsl]
        have HSL := hid hsl
        have hsll : sl.length ≤ 300 := by rw [hsl, List.length_take]; omega
        rw [← hsl] at hrb
        have HRBB := hid hrb
        clear hsl hex HEX hrb hmin
        refine (open_any (bs sl) w12).mono ?_
        rintro e w13 ⟨rfl, hR, hB⟩
        rw [toList_bs] at hR
        have R13 := hid hR
        have B13 := hid (B12.out.trans (hB.mono B12.out.size))
        obtain ⟨rc, hrce⟩ : ∃ rc, rc = w12.heap.size := ⟨_, rfl⟩
        rw [← hrce] at R13 ⊢
        have HRC := hid (show w8.heap.size ≤ rc by rw [hrce]; exact B12.out.size)
        clear hB hR hrce B12
        go_wp2_with fail
        go_loopw [18, 20] (fun lv iv wr => ∃ (k : Nat) (st : RS) (O : List Bs), k ≤ m2 ∧ iv = .int .i64 (k : Nat) ∧ O.length = k ∧ O.length + st.1.length ≤ sl.length ∧ strRK.Own wr (rc + 1) lv (O.map bs) ∧ Rd wr rc st.1 st.2 ∧ RSok st ∧ Below w8.heap.size w8 wr ∧ Hid (rWhile rT m2 (sl, false) = (O ++ (rWhile rT (m2 - k) st).1, (rWhile rT (m2 - k) st).2))) (fun _ iv _ => m2 - (intOf iv).toNat)
        case atStart => exact ⟨0, (sl, false), [], by omega, rfl, rfl, by simp, RK.Own.nil, R13.out, (by intro h; cases h), B13.out, by simp [Hid]⟩
        case round =>
          clear R13 B13
          obtain ⟨k, st, O, hk, rfl, hkl, hsum, hO, hRd, hok, hB, hrw⟩ := hrel
          have HO := hid hO
          have HR := hid hRd
          have HK := hid hok
          have HB := hid hB
          have HW := hid hrw
          have HKL := hid hkl
          obtain ⟨Al, cl, hv⟩ := hO.form
          rw [List.length_map] at hv
          subst hv
          have hov : O.length ≤ 300 := by omega
          have hst : st.1.length ≤ 300 := by omega
          have HSUM := hid hsum
          clear hO hRd hok hB hrw hkl hsum
          go_upto_region 28 with fail
          go_cut [114] (fun tv wx => ∃ r : Bool, tv = .bool r ∧ (r = true → k < m2 ∧ st.1 ≠ []) ∧ (r = false → k = m2 ∨ st.1 = []) ∧ Below wr.heap.size wr wx)
          case first =>
            by_cases hlt : k < m2
            · have hltI : (k : Int) < (m2 : Int) := by omega
              go_wp2_with fail
              refine (left_any rc st.1 st.2 wr HR.out).mono ?_
              rintro e w14 ⟨rfl, hB⟩
              have B14 := hid hB
              clear hB
              go_wp2_with fail
              go_meet
              refine ⟨decide ((0 : Int) < (st.1.length : Int)), by first | rfl | simp, fun h => ⟨hlt, fun e => by rw [e] at h; simp at h⟩, fun h => .inr ?_, B14.out⟩
              have := of_decide_eq_false h
              exact List.eq_nil_of_length_eq_zero (by omega)
            · have hltI : ¬ (k : Int) < (m2 : Int) := by omega
              go_wp2_with fail
              go_meet
              exact ⟨false, rfl, fun h => (by cases h), fun _ => .inl (by omega), Below.refl _ _⟩
          case rest =>
          obtain ⟨r, rfl, hrt, hrf, hBc⟩ := hcut
          have HRT := hid hrt
          have HRF := hid hrf
          have OC := hid (HO.out.below hBc)
          have RC := hid (show Rd wc rc st.1 st.2 from Blk.below HR.out hBc HR.out.lt)
          have BC := hid (HB.out.trans (hBc.mono HB.out.size))
          clear hrt hrf hBc HO HR HB
          cases r with
          | true =>
            obtain ⟨hlt, hnil⟩ := HRT.out rfl
            obtain ⟨mm, hmm⟩ : ∃ mm, m2 - k = mm + 1 := ⟨m2 - k - 1, by omega⟩
            have HT := hid (rText_f st HK.out (by omega) rc)
            have h1 := rT_lt hnil
            have h2 := (rT_le st).2
            have h3 := rT_ok HK.out
            have HW2 := hid (show rWhile rT m2 (sl, false) = ((O ++ [(rT st).1]) ++ (rWhile rT (m2 - (k + 1)) (rT st).2).1, (rWhile rT (m2 - (k + 1)) (rT st).2).2) by
              rw [HW.out, hmm, show m2 - (k + 1) = mm by omega]
              conv => lhs; unfold rWhile
              rw [if_neg hnil]
              simp)
            generalize rT st = z at *
            obtain ⟨x, st2⟩ := z
            simp only at *
            have K2 := hid h3
            have HX := hid (And.intro h1 h2)
            have EC := hid (E8.out.below BC.out)
            clear h1 h2 h3 hnil HW hmm
            go_wp2_with fail
            refine (HT.out wc RC.out EC.out.env).mono ?_
            rintro e w14 ⟨rfl, hR, hg⟩
            have R14 := hid hR
            have B14 := hid (bg BC.out hg HRC.out)
            have O14 := hid (strRK_reader OC.out hg)
            clear hR hg HT
            have BA := hid (show Below w14.heap.size w14 (w14.alloc (Obj.cells #[Value.string (bs x)] 9)) by (repeat (first | exact Below.refl _ _ | assumption | refine below_drewN ?_ _ | refine Below.drew ?_ | refine Below.alloc ?_ (by (try simp); (try omega)) _ | refine Below.setCell ?_ (by (try simp); (try omega)) _)))
            have OA := hid (O14.out.below BA.out)
            have SA := hid (show SlR (w14.alloc (Obj.cells #[Value.string (bs x)] 9)) (w14.alloc (Obj.cells #[Value.string (bs x)] 9)).heap.size (some ⟨w14.heap.size, 0, none⟩) ([bs x] : List ByteArray) from slr_new w14 [bs x] (by intro y hy; rw [List.mem_singleton] at hy; rw [hy, bs_size]; have := HX.out.2; unfold maxLen; omega))
            have hba := hid (show rc + 1 ≤ (w14.alloc (Obj.cells #[Value.string (bs x)] 9)).heap.size by simp; have := R14.out.lt; omega)
            go_wp2_with (first
              | (at_builtin; refine strRK.appL _ rfl (.tmp 117) (.tmp 120) rfl rfl OA.out (ys := [bs x]) (c := 1) rfl SA.out (by simp; omega) hba.out ?_; intro A5 c5 w15 hO5 hg5)
              | go_in)
            have B15 := hid (show Below w8.heap.size w8 w15 from by
              have b1 := B14.out.trans (BA.out.mono B14.out.size)
              refine ⟨hg5.os.trans b1.os, hg5.tape.trans b1.tape, hg5.output.trans b1.output, Nat.le_trans b1.size hg5.size, fun q hq => (hg5.block q (Nat.lt_of_lt_of_le hq b1.size) (fun e => ?_)).trans (b1.block q hq)⟩
              have := (World.ownsRow.lt OA.out q e.symm).1
              have := HRC.out
              omega)
            have R15 := hid (show Rd w15 rc st2.1 st2.2 from (Blk.below R14.out BA.out R14.out.lt).grown hg5 (fun e => by have := (World.ownsRow.lt OA.out rc e.symm).1; omega))
            go_roundw
            case rel => exact ⟨k + 1, st2, O ++ [x], by omega, by go_num, by simp; have := HKL.out; omega, by simp; have := HSUM.out; have := HX.out.1; omega, by simpa using hO5, R15.out, K2.out, B15.out, HW2.out⟩
            case measure => simp [intOf]; omega
          | false =>
            have hOE : O = readL sl m2 ∧ (!st.2 && st.1.isEmpty && decide (O.length = m2)) = readB sl m2 := by
              have hend : (rWhile rT (m2 - k) st).1 = [] ∧ (rWhile rT (m2 - k) st).2 = st := by
                rcases HRF.out rfl with e | e
                · rw [show m2 - k = 0 by omega]; exact ⟨rfl, rfl⟩
                · rw [rWhile_nil rT _ st e]; exact ⟨rfl, rfl⟩
              have hO1 : O = readL sl m2 := by unfold readL; rw [HW.out, hend.1]; simp
              refine ⟨hO1, ?_⟩
              unfold readB
              rw [← hO1, HW.out, hend.2]
            have HOE := hid (show O = readL (log.take m1) m2 by rw [← HSL.out]; exact hOE.1)
            have hbb := hOE.2
            rw [HRBB.out] at hbb
            have hdn := done_any rc st.1 st.2 wc RC.out
            obtain ⟨dd, hdd⟩ : ∃ dd, dd = (!st.2 && st.1.isEmpty) := ⟨_, rfl⟩
            rw [← hdd] at hdn hbb
            have HDNE := hid hdn
            have OF := OC
            have BF := BC
            clear hOE hdn hdd HW HRT HRF

            cases dd with
            | false =>
              go_wp2_with fail
              refine HDNE.out.mono ?_
              rintro e wE ⟨rfl, hB⟩
              have BE := hid (BF.out.trans (hB.mono BF.out.size))
              have OE := hid (OF.out.below hB)
              clear hB HDNE

              have BX := BE.out
              go_wp2_with fail
              go_ret
              exact ⟨rfl, B8.out.trans (BX.mono B8.out.size)⟩
            | true =>
              have hd2 : ¬ O.length = m2 := by simpa using hbb
              have hkk : ¬ (O.length : Int) = (m2 : Int) := by omega
              have hkb : ((O.length : Int) == (m2 : Int)) = false := by simp; omega
              clear hbb hd2
              go_wp2_with fail
              refine HDNE.out.mono ?_
              rintro e wE ⟨rfl, hB⟩
              have BE := hid (BF.out.trans (hB.mono BF.out.size))
              have OE := hid (OF.out.below hB)
              clear hB HDNE

              have BX := BE.out
              go_wp2_with fail
              go_ret
              exact ⟨rfl, B8.out.trans (BX.mono B8.out.size)⟩
    | true =>
      rw [if_pos ⟨rfl, hq2, hrb⟩] at hm
      obtain ⟨jk, cb, lv, rfl, -, -, -, hJr, -⟩ := hm
      have HJr := hid hJr
      clear hJr
      as_aux_lemma =>
        have hle : (m1 : Int) ≤ (log.length : Int) := by omega
        have hmin : min (m1 : Int) (log.length : Int) = (m1 : Int) := by omega
        have hex : (bs log).extract 0 m1 = bs (log.take m1) := by rw [bs_extract, List.drop_zero]

        go_wp2_with fail
        refine (open_any (bs val) w8).mono ?_
        rintro e w9 ⟨rfl, hR, hB⟩
        rw [HTV.out] at hR
        have R9 := hid hR
        have B9 := hid hB
        have E9 := hid (E8.out.below hB)
        clear hB hR
        obtain ⟨rb, hrbe⟩ : ∃ rb, rb = w8.heap.size := ⟨_, rfl⟩
        rw [← hrbe] at R9 ⊢
        have HRB := hid hrbe
        clear hrbe
        go_wp2_with fail
        refine (C1.out rb w9 R9.out E9.out.env).mono ?_
        rintro e w10 ⟨rfl, hR, hg⟩
        have R10 := hid hR
        have B10 := hid (bg B9.out hg (by rw [HRB.out]; exact Nat.le_refl _))
        have E10 := hid (E8.out.below B10.out)
        clear hg hR
        go_wp2_with fail
        refine (C2.out rb w10 R10.out E10.out.env).mono ?_
        rintro e w11 ⟨rfl, hR, hg⟩
        have R11 := hid hR
        have B11 := hid (bg B10.out hg (by rw [HRB.out]; exact Nat.le_refl _))
        have hdn := done_any rb s2.1 s2.2 w11 R11.out
        rw [← HQ3.out] at hdn
        have HDN := hid hdn
        clear hg hR hdn R9 R10 B9 B10 E9 E10
        go_wp2_with fail
        refine HDN.out.mono ?_
        rintro e w12 ⟨rfl, hB⟩
        have B12 := hid (B11.out.trans (hB.mono B11.out.size))
        clear hB HDN B11 R11

        have HEX := hid hex
        go_upto_region 24 with fail
        clear hle
        go_wp2_with fail
        obtain ⟨sl, hsl⟩ : ∃ sl, sl = log.take m1 := ⟨_, rfl⟩
        rw [← hsl]
        have HSL := hid hsl
        have hsll : sl.length ≤ 300 := by rw [hsl, List.length_take]; omega
        rw [← hsl] at hrb
        have HRBB := hid hrb
        clear hsl hex HEX hrb hmin
        refine (open_any (bs sl) w12).mono ?_
        rintro e w13 ⟨rfl, hR, hB⟩
        rw [toList_bs] at hR
        have R13 := hid hR
        have B13 := hid (B12.out.trans (hB.mono B12.out.size))
        obtain ⟨rc, hrce⟩ : ∃ rc, rc = w12.heap.size := ⟨_, rfl⟩
        rw [← hrce] at R13 ⊢
        have HRC := hid (show w8.heap.size ≤ rc by rw [hrce]; exact B12.out.size)
        clear hB hR hrce B12
        go_wp2_with fail
        go_loopw [18, 20] (fun lv iv wr => ∃ (k : Nat) (st : RS) (O : List Bs), k ≤ m2 ∧ iv = .int .i64 (k : Nat) ∧ O.length = k ∧ O.length + st.1.length ≤ sl.length ∧ strRK.Own wr (rc + 1) lv (O.map bs) ∧ Rd wr rc st.1 st.2 ∧ RSok st ∧ Below w8.heap.size w8 wr ∧ Hid (rWhile rT m2 (sl, false) = (O ++ (rWhile rT (m2 - k) st).1, (rWhile rT (m2 - k) st).2))) (fun _ iv _ => m2 - (intOf iv).toNat)
        case atStart => exact ⟨0, (sl, false), [], by omega, rfl, rfl, by simp, RK.Own.nil, R13.out, (by intro h; cases h), B13.out, by simp [Hid]⟩
        case round =>
          clear R13 B13
          obtain ⟨k, st, O, hk, rfl, hkl, hsum, hO, hRd, hok, hB, hrw⟩ := hrel
          have HO := hid hO
          have HR := hid hRd
          have HK := hid hok
          have HB := hid hB
          have HW := hid hrw
          have HKL := hid hkl
          obtain ⟨Al, cl, hv⟩ := hO.form
          rw [List.length_map] at hv
          subst hv
          have hov : O.length ≤ 300 := by omega
          have hst : st.1.length ≤ 300 := by omega
          have HSUM := hid hsum
          clear hO hRd hok hB hrw hkl hsum
          go_upto_region 28 with fail
          go_cut [114] (fun tv wx => ∃ r : Bool, tv = .bool r ∧ (r = true → k < m2 ∧ st.1 ≠ []) ∧ (r = false → k = m2 ∨ st.1 = []) ∧ Below wr.heap.size wr wx)
          case first =>
            by_cases hlt : k < m2
            · have hltI : (k : Int) < (m2 : Int) := by omega
              go_wp2_with fail
              refine (left_any rc st.1 st.2 wr HR.out).mono ?_
              rintro e w14 ⟨rfl, hB⟩
              have B14 := hid hB
              clear hB
              go_wp2_with fail
              go_meet
              refine ⟨decide ((0 : Int) < (st.1.length : Int)), by first | rfl | simp, fun h => ⟨hlt, fun e => by rw [e] at h; simp at h⟩, fun h => .inr ?_, B14.out⟩
              have := of_decide_eq_false h
              exact List.eq_nil_of_length_eq_zero (by omega)
            · have hltI : ¬ (k : Int) < (m2 : Int) := by omega
              go_wp2_with fail
              go_meet
              exact ⟨false, rfl, fun h => (by cases h), fun _ => .inl (by omega), Below.refl _ _⟩
          case rest =>
          obtain ⟨r, rfl, hrt, hrf, hBc⟩ := hcut
          have HRT := hid hrt
          have HRF := hid hrf
          have OC := hid (HO.out.below hBc)
          have RC := hid (show Rd wc rc st.1 st.2 from Blk.below HR.out hBc HR.out.lt)
          have BC := hid (HB.out.trans (hBc.mono HB.out.size))
          clear hrt hrf hBc HO HR HB
          cases r with
          | true =>
            obtain ⟨hlt, hnil⟩ := HRT.out rfl
            obtain ⟨mm, hmm⟩ : ∃ mm, m2 - k = mm + 1 := ⟨m2 - k - 1, by omega⟩
            have HT := hid (rText_f st HK.out (by omega) rc)
            have h1 := rT_lt hnil
            have h2 := (rT_le st).2
            have h3 := rT_ok HK.out
            have HW2 := hid (show rWhile rT m2 (sl, false) = ((O ++ [(rT st).1]) ++ (rWhile rT (m2 - (k + 1)) (rT st).2).1, (rWhile rT (m2 - (k + 1)) (rT st).2).2) by
              rw [HW.out, hmm, show m2 - (k + 1) = mm by omega]
              conv => lhs; unfold rWhile
              rw [if_neg hnil]
              simp)
            generalize rT st = z at *
            obtain ⟨x, st2⟩ := z
            simp only at *
            have K2 := hid h3
            have HX := hid (And.intro h1 h2)
            have EC := hid (E8.out.below BC.out)
            clear h1 h2 h3 hnil HW hmm
            go_wp2_with fail
            refine (HT.out wc RC.out EC.out.env).mono ?_
            rintro e w14 ⟨rfl, hR, hg⟩
            have R14 := hid hR
            have B14 := hid (bg BC.out hg HRC.out)
            have O14 := hid (strRK_reader OC.out hg)
            clear hR hg HT
            have BA := hid (show Below w14.heap.size w14 (w14.alloc (Obj.cells #[Value.string (bs x)] 9)) by (repeat (first | exact Below.refl _ _ | assumption | refine below_drewN ?_ _ | refine Below.drew ?_ | refine Below.alloc ?_ (by (try simp); (try omega)) _ | refine Below.setCell ?_ (by (try simp); (try omega)) _)))
            have OA := hid (O14.out.below BA.out)
            have SA := hid (show SlR (w14.alloc (Obj.cells #[Value.string (bs x)] 9)) (w14.alloc (Obj.cells #[Value.string (bs x)] 9)).heap.size (some ⟨w14.heap.size, 0, none⟩) ([bs x] : List ByteArray) from slr_new w14 [bs x] (by intro y hy; rw [List.mem_singleton] at hy; rw [hy, bs_size]; have := HX.out.2; unfold maxLen; omega))
            have hba := hid (show rc + 1 ≤ (w14.alloc (Obj.cells #[Value.string (bs x)] 9)).heap.size by simp; have := R14.out.lt; omega)
            go_wp2_with (first
              | (at_builtin; refine strRK.appL _ rfl (.tmp 117) (.tmp 120) rfl rfl OA.out (ys := [bs x]) (c := 1) rfl SA.out (by simp; omega) hba.out ?_; intro A5 c5 w15 hO5 hg5)
              | go_in)
            have B15 := hid (show Below w8.heap.size w8 w15 from by
              have b1 := B14.out.trans (BA.out.mono B14.out.size)
              refine ⟨hg5.os.trans b1.os, hg5.tape.trans b1.tape, hg5.output.trans b1.output, Nat.le_trans b1.size hg5.size, fun q hq => (hg5.block q (Nat.lt_of_lt_of_le hq b1.size) (fun e => ?_)).trans (b1.block q hq)⟩
              have := (World.ownsRow.lt OA.out q e.symm).1
              have := HRC.out
              omega)
            have R15 := hid (show Rd w15 rc st2.1 st2.2 from (Blk.below R14.out BA.out R14.out.lt).grown hg5 (fun e => by have := (World.ownsRow.lt OA.out rc e.symm).1; omega))
            go_roundw
            case rel => exact ⟨k + 1, st2, O ++ [x], by omega, by go_num, by simp; have := HKL.out; omega, by simp; have := HSUM.out; have := HX.out.1; omega, by simpa using hO5, R15.out, K2.out, B15.out, HW2.out⟩
            case measure => simp [intOf]; omega
          | false =>
            have hOE : O = readL sl m2 ∧ (!st.2 && st.1.isEmpty && decide (O.length = m2)) = readB sl m2 := by
              have hend : (rWhile rT (m2 - k) st).1 = [] ∧ (rWhile rT (m2 - k) st).2 = st := by
                rcases HRF.out rfl with e | e
                · rw [show m2 - k = 0 by omega]; exact ⟨rfl, rfl⟩
                · rw [rWhile_nil rT _ st e]; exact ⟨rfl, rfl⟩
              have hO1 : O = readL sl m2 := by unfold readL; rw [HW.out, hend.1]; simp
              refine ⟨hO1, ?_⟩
              unfold readB
              rw [← hO1, HW.out, hend.2]
            have HOE := hid (show O = readL (log.take m1) m2 by rw [← HSL.out]; exact hOE.1)
            have hbb := hOE.2
            rw [HRBB.out] at hbb
            have hdn := done_any rc st.1 st.2 wc RC.out
            obtain ⟨dd, hdd⟩ : ∃ dd, dd = (!st.2 && st.1.isEmpty) := ⟨_, rfl⟩
            rw [← hdd] at hdn hbb
            have HDNE := hid hdn
            have OF := OC
            have BF := BC
            clear hOE hdn hdd HW HRT HRF

            simp only [Bool.and_eq_true, decide_eq_true_eq] at hbb
            obtain ⟨hd1, hd2⟩ := hbb
            subst hd1
            have hkk : (O.length : Int) = (m2 : Int) := by omega
            have hkb : ((O.length : Int) == (m2 : Int)) = true := by simp; omega
            have HJ := hid (show Jr w8 w.heap.size jk b cb 7 lv (O.map bs) false from by rw [HOE.out]; exact HJr.out)
            clear hd2 HJr
            go_wp2_with fail
            refine HDNE.out.mono ?_
            rintro e wE ⟨rfl, hB⟩
            have BE := hid (BF.out.trans (hB.mono BF.out.size))
            have OE := hid (OF.out.below hB)
            clear hB HDNE

            have HA := hid (all_any w.heap.size jk b cb 7 lv (O.map bs) false wE ⟨HJ.out.j.below BE.out HJ.out.j.lt, HJ.out.l.below BE.out⟩ (by simp; omega))
            go_wp2_with fail
            refine HA.out.mono ?_
            rintro e wG ⟨gc, rfl, -, hO, hB⟩
            have BG := hid (BE.out.trans (hB.mono BE.out.size))
            have hoe := OE.out.below hB
            have hok : ∀ x ∈ O.map bs, x.size ≤ maxLen := by
              intro x hx
              obtain ⟨y, hy, rfl⟩ := List.mem_map.1 hx
              have h9 := readL_each m2 (log.take m1, false) y (by have := HOE.out; unfold readL at this; rw [← this]; exact hy)
              simp only [List.length_take] at h9
              rw [bs_size]; unfold maxLen; omega
            have hsm := same_rows hO hoe hok hok (by simp; unfold maxLen; omega) (by simp; unfold maxLen; omega)
            rw [decide_eq_true rfl] at hsm
            simp only [List.length_map] at hsm
            have HSMM := hid hsm
            clear hO hB hoe hok hsm HA BE OE
            go_wp2_with fail
            refine HSMM.out.mono ?_
            rintro e wH ⟨rfl, hB⟩
            have BX := BG.out.trans (hB.mono BG.out.size)
            go_wp2_with fail
            go_ret
            exact ⟨rfl, B8.out.trans (BX.mono B8.out.size)⟩
end Go.Proofs.YtbefmjodpndndaaDoor
