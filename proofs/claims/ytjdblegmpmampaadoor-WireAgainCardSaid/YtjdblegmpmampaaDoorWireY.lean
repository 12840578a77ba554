/- Wire: WireAgain, the walk. -/
import Derived.Test.YtjdblegmpmampaaDoorWireU
set_option linter.unusedSimpArgs false
set_option linter.unusedVariables false
namespace Go.Proofs.YtjdblegmpmampaaDoor
open Go.RowKit Go.IntWalk

theorem encL_bound (es : List (List UInt8)) (n m : Nat) (hn : es.length ≤ n) (hm : ∀ y ∈ es, y.length ≤ m) (hb : n * m ≤ 100000000) (hn2 : n ≤ 1000000) : (encL es).length ≤ 100000100 := by
  have h1 := flat_bound es m hm
  have h2 : es.length * m ≤ n * m := Nat.mul_le_mul_right _ hn
  have h3 := Lib.itoa_length_le (es.length : Int) (by omega) (by omega)
  rw [encL]
  simp only [List.length_append, List.length_cons, List.length_nil]
  omega

set_option maxRecDepth 20000 in
set_option maxHeartbeats 2000000 in
theorem again_0 (s : ByteArray) (n : Int) (w : World) (hn : I64 n) (hs : s.size ≤ 400) (he : Env w) (hk : kd n = 0) :
    Calls Tryd.prog 4 #[.string s, .int .i64 n] w fun e w' => e = .returned (.bool true) ∧ Below w.heap.size w w' := by
  have hk' := hid hk
  clear hk
  have hl2 : s.data.toList.length ≤ 1000000000000 := by have := size_list s; omega
  have Hs := hid (show s.data.toList.length ≤ 400 by have := size_list s; omega)
  have hsl := hid (size_list s)
  go_enter Tryd.func4, Tryd.ntmps4
  go_wp2_with fail
  refine (small_any _ he).mono ?_
  rintro e w0 ⟨rfl, hB1⟩
  go_wp2_with fail
  refine (open_any s w0).mono ?_
  rintro e w1 ⟨rfl, hR0, hB⟩
  have hB1' := hid (hB1.trans (hB.mono hB1.size))
  have hbz := hid hB1.size
  have hbz1 := hR0.lt
  clear hB hB1
  go_wp2_with fail
  refine (kind_any n 0 ⟨#[]⟩ none 0 0 none 0 0 _ hn).mono ?_
  rw [hk'.out]
  rintro e w2 ⟨rfl, hB⟩
  have hB2 := hid (hB1'.out.trans (hB.mono hB1'.out.size))
  have hR : Rd w2 w0.heap.size s.data.toList false := Blk.below hR0 hB hR0.lt
  clear hB hB1' hR0
  generalize w0.heap.size = b at *
  have H := hid (num_any _ _ false _ hR hl2 (he.below hB2.out))
  cases hr : numL s.data.toList 59 0 with
  | none =>
    rw [hr] at H
    clear hr
    go_wp2_with fail
    refine H.out.mono ?_
    rintro e w3 ⟨rfl, hR3, hg⟩
    have hB3 := hid (bg hB2.out hg hbz.out)
    clear hR H hB2 hg
    go_wp2_with fail
    refine (wNum_any 0 (by simp [I64]) w3 (he.below hB3.out)).mono ?_
    generalize (bs (if (0:Int) < 0 then [] else encI 0)) = t0
    rintro e w4 ⟨rfl, hB⟩
    have hR4 : Rd w4 b [] true := Blk.below hR3 hB hR3.lt
    have hB4 := hid (hB3.out.trans (hB.mono hB3.out.size))
    clear hB hR3 hB3
    go_wp2_with fail
    refine (left_any _ _ _ _ hR4).mono ?_
    rw [List.length_nil]
    rintro e w5 ⟨rfl, hB⟩
    have hR5 : Rd w5 b [] true := Blk.below hR4 hB hR4.lt
    have hB5 := hid (hB4.out.trans (hB.mono hB4.out.size))
    clear hB hR4 hB4
    go_wp2_with fail
    refine (done_any _ _ _ _ hR5).mono ?_
    rw [Bool.not_true, Bool.false_and]
    rintro e w6 ⟨rfl, hB⟩
    have hB6 := hid (hB5.out.trans (hB.mono hB5.out.size))
    go_wp2_with fail
    go_ret
    exact ⟨rfl, hB6.out⟩
  | some vr =>
    obtain ⟨v, r⟩ := vr
    rw [hr] at H
    have hE := hid (show s.data.toList = encI v ++ r from by rw [numL_split hr, encI]; simp)
    have hv := hid (numL_bd hr)
    have hv0 := hid (numL_shorter hr).2
    clear hr
    go_wp2_with fail
    refine H.out.mono ?_
    rintro e w3 ⟨rfl, hR3, hg⟩
    have hB3 := hid (bg hB2.out hg hbz.out)
    clear hR H hB2 hg
    go_wp2_with fail
    refine (wNum_any v hv.out w3 (he.below hB3.out)).mono ?_
    rw [if_neg (by have := hv0.out; omega)]
    have hE2 := hid hE.out
    obtain ⟨t0, ht0⟩ : ∃ t0, t0 = encI v := ⟨_, rfl⟩
    rw [← ht0] at hE2 ⊢
    have Ht0 := hid ht0
    clear ht0 hE
    rintro e w4 ⟨rfl, hB⟩
    have hR4 : Rd w4 b r false := Blk.below hR3 hB hR3.lt
    have hB4 := hid (hB3.out.trans (hB.mono hB3.out.size))
    clear hB hR3 hB3
    have hz1 : (r.length : Int) ≤ s.size := by have := hsl.out; rw [hE2.out, List.length_append] at this; omega
    have hz2 : s.size - (r.length : Int) = t0.length := by have := hsl.out; rw [hE2.out, List.length_append] at this; omega
    have Hz2 := hid hz2
    clear hz2
    have hcmp : ((bs t0).toList == (s.extract 0 (max 0 (min (↑s.size - ↑r.length) ↑s.size) : Int).toNat).toList) = true := by
      rw [Hz2.out, bs_list]
      have e1 : s = bs (t0 ++ r) := by rw [← hE2.out, bs_of]
      have e2 : (max 0 (min (↑t0.length) ↑s.size) : Int).toNat = t0.length := by have := Hz2.out; omega
      rw [e2, e1, bs_extract, List.drop_zero, List.take_left, bs_list]
      simp
    have Hc := hid hcmp
    clear hcmp
    go_wp2_with fail
    refine (left_any _ _ _ _ hR4).mono ?_
    rintro e w5 ⟨rfl, hB⟩
    have hR5 : Rd w5 b r false := Blk.below hR4 hB hR4.lt
    have hB5 := hid (hB4.out.trans (hB.mono hB4.out.size))
    clear hB hR4 hB4
    by_cases hr0 : r.length = 0
    · obtain rfl : r = [] := List.eq_nil_of_length_eq_zero hr0
      simp only [List.length_nil] at *
      go_wp2_with fail
      refine (done_any _ _ _ _ hR5).mono ?_
      rw [Bool.not_false, Bool.true_and, List.isEmpty_nil]
      rintro e w6 ⟨rfl, hB⟩
      have hR6 : Rd w6 b [] false := Blk.below hR5 hB hR5.lt
      have hB6 := hid (hB5.out.trans (hB.mono hB5.out.size))
      clear hB hR5 hB5
      go_wp2_with fail
      refine (left_any _ _ _ _ hR6).mono ?_
      rintro e w7 ⟨rfl, hB⟩
      have hB7 := hid (hB6.out.trans (hB.mono hB6.out.size))
      clear hB hR6 hB6
      simp only [List.length_nil]
      clear Hc
      have e9 := hid (show s = bs t0 by have := hE2.out; rw [List.append_nil] at this; rw [← this, bs_of])
      go_wp2_with fail
      go_ret
      exact ⟨ret_bool (by rw [e9.out]; simp), hB7.out⟩
    · have hr1 : (0 : Int) < r.length := by omega
      have hr2 : ((r.length : Int) == 0) = false := by rw [beq_eq_false_iff_ne]; omega
      clear hr0
      go_wp2_with fail
      refine (left_any _ _ _ _ hR5).mono ?_
      rintro e w7 ⟨rfl, hB⟩
      have hB7 := hid (hB5.out.trans (hB.mono hB5.out.size))
      clear hB hR5 hB5
      have hc2 := Hc.out
      go_wp2_with fail
      go_ret
      exact ⟨rfl, hB7.out⟩
set_option maxRecDepth 20000 in
set_option maxHeartbeats 2000000 in
theorem again_1 (s : ByteArray) (n : Int) (w : World) (hn : I64 n) (hs : s.size ≤ 400) (he : Env w) (hk : kd n = 1) :
    Calls Tryd.prog 4 #[.string s, .int .i64 n] w fun e w' => e = .returned (.bool true) ∧ Below w.heap.size w w' := by
  have hk' := hid hk
  clear hk
  have hl2 : s.data.toList.length ≤ 1000000000000 := by have := size_list s; omega
  have Hs := hid (show s.data.toList.length ≤ 400 by have := size_list s; omega)
  have hsl := hid (size_list s)
  go_enter Tryd.func4, Tryd.ntmps4
  go_wp2_with fail
  refine (small_any _ he).mono ?_
  rintro e w0 ⟨rfl, hB1⟩
  go_wp2_with fail
  refine (open_any s w0).mono ?_
  rintro e w1 ⟨rfl, hR0, hB⟩
  have hB1' := hid (hB1.trans (hB.mono hB1.size))
  have hbz := hid hB1.size
  have hbz1 := hR0.lt
  clear hB hB1
  go_wp2_with fail
  refine (kind_any n 0 ⟨#[]⟩ none 0 0 none 0 0 _ hn).mono ?_
  rw [hk'.out]
  rintro e w2 ⟨rfl, hB⟩
  have hB2 := hid (hB1'.out.trans (hB.mono hB1'.out.size))
  have hR : Rd w2 w0.heap.size s.data.toList false := Blk.below hR0 hB hR0.lt
  clear hB hB1' hR0
  generalize w0.heap.size = b at *
  have H := hid (int_any _ _ false _ hR hl2 (he.below hB2.out))
  cases hr : numL s.data.toList 59 (-9223372036854775808) with
  | none =>
    rw [hr] at H
    clear hr
    go_wp2_with fail
    refine H.out.mono ?_
    rintro e w3 ⟨rfl, hR3, hg⟩
    have hB3 := hid (bg hB2.out hg hbz.out)
    clear hR H hB2 hg
    go_wp2_with fail
    refine (wInt_any 0 (by simp [I64]) w3 (he.below hB3.out)).mono ?_
    generalize (bs (encI 0)) = t0
    rintro e w4 ⟨rfl, hB⟩
    have hR4 : Rd w4 b [] true := Blk.below hR3 hB hR3.lt
    have hB4 := hid (hB3.out.trans (hB.mono hB3.out.size))
    clear hB hR3 hB3
    go_wp2_with fail
    refine (left_any _ _ _ _ hR4).mono ?_
    rw [List.length_nil]
    rintro e w5 ⟨rfl, hB⟩
    have hR5 : Rd w5 b [] true := Blk.below hR4 hB hR4.lt
    have hB5 := hid (hB4.out.trans (hB.mono hB4.out.size))
    clear hB hR4 hB4
    go_wp2_with fail
    refine (done_any _ _ _ _ hR5).mono ?_
    rw [Bool.not_true, Bool.false_and]
    rintro e w6 ⟨rfl, hB⟩
    have hB6 := hid (hB5.out.trans (hB.mono hB5.out.size))
    go_wp2_with fail
    go_ret
    exact ⟨rfl, hB6.out⟩
  | some vr =>
    obtain ⟨v, r⟩ := vr
    rw [hr] at H
    have hE := hid (show s.data.toList = encI v ++ r from by rw [numL_split hr, encI]; simp)
    have hv := hid (numL_bd hr)
    clear hr
    go_wp2_with fail
    refine H.out.mono ?_
    rintro e w3 ⟨rfl, hR3, hg⟩
    have hB3 := hid (bg hB2.out hg hbz.out)
    clear hR H hB2 hg
    go_wp2_with fail
    refine (wInt_any v hv.out w3 (he.below hB3.out)).mono ?_
    have hE2 := hid hE.out
    obtain ⟨t0, ht0⟩ : ∃ t0, t0 = encI v := ⟨_, rfl⟩
    rw [← ht0] at hE2 ⊢
    have Ht0 := hid ht0
    clear ht0 hE
    rintro e w4 ⟨rfl, hB⟩
    have hR4 : Rd w4 b r false := Blk.below hR3 hB hR3.lt
    have hB4 := hid (hB3.out.trans (hB.mono hB3.out.size))
    clear hB hR3 hB3
    have hz1 : (r.length : Int) ≤ s.size := by have := hsl.out; rw [hE2.out, List.length_append] at this; omega
    have hz2 : s.size - (r.length : Int) = t0.length := by have := hsl.out; rw [hE2.out, List.length_append] at this; omega
    have Hz2 := hid hz2
    clear hz2
    have hcmp : ((bs t0).toList == (s.extract 0 (max 0 (min (↑s.size - ↑r.length) ↑s.size) : Int).toNat).toList) = true := by
      rw [Hz2.out, bs_list]
      have e1 : s = bs (t0 ++ r) := by rw [← hE2.out, bs_of]
      have e2 : (max 0 (min (↑t0.length) ↑s.size) : Int).toNat = t0.length := by have := Hz2.out; omega
      rw [e2, e1, bs_extract, List.drop_zero, List.take_left, bs_list]
      simp
    have Hc := hid hcmp
    clear hcmp
    go_wp2_with fail
    refine (left_any _ _ _ _ hR4).mono ?_
    rintro e w5 ⟨rfl, hB⟩
    have hR5 : Rd w5 b r false := Blk.below hR4 hB hR4.lt
    have hB5 := hid (hB4.out.trans (hB.mono hB4.out.size))
    clear hB hR4 hB4
    by_cases hr0 : r.length = 0
    · obtain rfl : r = [] := List.eq_nil_of_length_eq_zero hr0
      simp only [List.length_nil] at *
      go_wp2_with fail
      refine (done_any _ _ _ _ hR5).mono ?_
      rw [Bool.not_false, Bool.true_and, List.isEmpty_nil]
      rintro e w6 ⟨rfl, hB⟩
      have hR6 : Rd w6 b [] false := Blk.below hR5 hB hR5.lt
      have hB6 := hid (hB5.out.trans (hB.mono hB5.out.size))
      clear hB hR5 hB5
      go_wp2_with fail
      refine (left_any _ _ _ _ hR6).mono ?_
      rintro e w7 ⟨rfl, hB⟩
      have hB7 := hid (hB6.out.trans (hB.mono hB6.out.size))
      clear hB hR6 hB6
      simp only [List.length_nil]
      clear Hc
      have e9 := hid (show s = bs t0 by have := hE2.out; rw [List.append_nil] at this; rw [← this, bs_of])
      go_wp2_with fail
      go_ret
      exact ⟨ret_bool (by rw [e9.out]; simp), hB7.out⟩
    · have hr1 : (0 : Int) < r.length := by omega
      have hr2 : ((r.length : Int) == 0) = false := by rw [beq_eq_false_iff_ne]; omega
      clear hr0
      go_wp2_with fail
      refine (left_any _ _ _ _ hR5).mono ?_
      rintro e w7 ⟨rfl, hB⟩
      have hB7 := hid (hB5.out.trans (hB.mono hB5.out.size))
      clear hB hR5 hB5
      have hc2 := Hc.out
      go_wp2_with fail
      go_ret
      exact ⟨rfl, hB7.out⟩
set_option maxRecDepth 20000 in
set_option maxHeartbeats 2000000 in
theorem again_2 (s : ByteArray) (n : Int) (w : World) (hn : I64 n) (hs : s.size ≤ 400) (he : Env w) (hk : kd n = 2) :
    Calls Tryd.prog 4 #[.string s, .int .i64 n] w fun e w' => e = .returned (.bool true) ∧ Below w.heap.size w w' := by
  have hk' := hid hk
  clear hk
  have hl2 : s.data.toList.length ≤ 1000000000000 := by have := size_list s; omega
  have Hs := hid (show s.data.toList.length ≤ 400 by have := size_list s; omega)
  have hsl := hid (size_list s)
  go_enter Tryd.func4, Tryd.ntmps4
  go_wp2_with fail
  refine (small_any _ he).mono ?_
  rintro e w0 ⟨rfl, hB1⟩
  go_wp2_with fail
  refine (open_any s w0).mono ?_
  rintro e w1 ⟨rfl, hR0, hB⟩
  have hB1' := hid (hB1.trans (hB.mono hB1.size))
  have hbz := hid hB1.size
  have hbz1 := hR0.lt
  clear hB hB1
  go_wp2_with fail
  refine (kind_any n 0 ⟨#[]⟩ none 0 0 none 0 0 _ hn).mono ?_
  rw [hk'.out]
  rintro e w2 ⟨rfl, hB⟩
  have hB2 := hid (hB1'.out.trans (hB.mono hB1'.out.size))
  have hR : Rd w2 w0.heap.size s.data.toList false := Blk.below hR0 hB hR0.lt
  clear hB hB1' hR0
  generalize w0.heap.size = b at *
  have H := hid (text_any _ _ false _ hR (by intro h; cases h) hl2 (he.below hB2.out))
  cases hr : textL s.data.toList with
  | none =>
    rw [hr] at H
    clear hr
    go_wp2_with fail
    refine H.out.mono ?_
    rintro e w3 ⟨rfl, hR3, hg⟩
    have hB3 := hid (bg hB2.out hg hbz.out)
    clear hR H hB2 hg
    go_wp2_with fail
    refine (wText_any ⟨#[]⟩ (by decide) w3 (he.below hB3.out)).mono ?_
    generalize (bs (encT (⟨#[]⟩ : ByteArray).data.toList)) = t0
    rintro e w4 ⟨rfl, hB⟩
    have hR4 : Rd w4 b [] true := Blk.below hR3 hB hR3.lt
    have hB4 := hid (hB3.out.trans (hB.mono hB3.out.size))
    clear hB hR3 hB3
    go_wp2_with fail
    refine (left_any _ _ _ _ hR4).mono ?_
    rw [List.length_nil]
    rintro e w5 ⟨rfl, hB⟩
    have hR5 : Rd w5 b [] true := Blk.below hR4 hB hR4.lt
    have hB5 := hid (hB4.out.trans (hB.mono hB4.out.size))
    clear hB hR4 hB4
    go_wp2_with fail
    refine (done_any _ _ _ _ hR5).mono ?_
    rw [Bool.not_true, Bool.false_and]
    rintro e w6 ⟨rfl, hB⟩
    have hB6 := hid (hB5.out.trans (hB.mono hB5.out.size))
    go_wp2_with fail
    go_ret
    exact ⟨rfl, hB6.out⟩
  | some vr =>
    obtain ⟨v, r⟩ := vr
    rw [hr] at H
    have hE := hid (show s.data.toList = encT v ++ r from textL_split hr)
    have hv := hid (textL_less hr).2
    clear hr
    go_wp2_with fail
    refine H.out.mono ?_
    rintro e w3 ⟨rfl, hR3, hg⟩
    have hB3 := hid (bg hB2.out hg hbz.out)
    clear hR H hB2 hg
    go_wp2_with fail
    refine (wText_any (bs v) (by rw [bs_size]; have := hv.out; have := Hs.out; omega) w3 (he.below hB3.out)).mono ?_
    rw [show (bs v).data.toList = v by simp [bs]]
    have hE2 := hid hE.out
    obtain ⟨t0, ht0⟩ : ∃ t0, t0 = encT v := ⟨_, rfl⟩
    rw [← ht0] at hE2 ⊢
    have Ht0 := hid ht0
    clear ht0 hE
    rintro e w4 ⟨rfl, hB⟩
    have hR4 : Rd w4 b r false := Blk.below hR3 hB hR3.lt
    have hB4 := hid (hB3.out.trans (hB.mono hB3.out.size))
    clear hB hR3 hB3
    have hz1 : (r.length : Int) ≤ s.size := by have := hsl.out; rw [hE2.out, List.length_append] at this; omega
    have hz2 : s.size - (r.length : Int) = t0.length := by have := hsl.out; rw [hE2.out, List.length_append] at this; omega
    have Hz2 := hid hz2
    clear hz2
    have hcmp : ((bs t0).toList == (s.extract 0 (max 0 (min (↑s.size - ↑r.length) ↑s.size) : Int).toNat).toList) = true := by
      rw [Hz2.out, bs_list]
      have e1 : s = bs (t0 ++ r) := by rw [← hE2.out, bs_of]
      have e2 : (max 0 (min (↑t0.length) ↑s.size) : Int).toNat = t0.length := by have := Hz2.out; omega
      rw [e2, e1, bs_extract, List.drop_zero, List.take_left, bs_list]
      simp
    have Hc := hid hcmp
    clear hcmp
    go_wp2_with fail
    refine (left_any _ _ _ _ hR4).mono ?_
    rintro e w5 ⟨rfl, hB⟩
    have hR5 : Rd w5 b r false := Blk.below hR4 hB hR4.lt
    have hB5 := hid (hB4.out.trans (hB.mono hB4.out.size))
    clear hB hR4 hB4
    by_cases hr0 : r.length = 0
    · obtain rfl : r = [] := List.eq_nil_of_length_eq_zero hr0
      simp only [List.length_nil] at *
      go_wp2_with fail
      refine (done_any _ _ _ _ hR5).mono ?_
      rw [Bool.not_false, Bool.true_and, List.isEmpty_nil]
      rintro e w6 ⟨rfl, hB⟩
      have hR6 : Rd w6 b [] false := Blk.below hR5 hB hR5.lt
      have hB6 := hid (hB5.out.trans (hB.mono hB5.out.size))
      clear hB hR5 hB5
      go_wp2_with fail
      refine (left_any _ _ _ _ hR6).mono ?_
      rintro e w7 ⟨rfl, hB⟩
      have hB7 := hid (hB6.out.trans (hB.mono hB6.out.size))
      clear hB hR6 hB6
      simp only [List.length_nil]
      clear Hc
      have e9 := hid (show s = bs t0 by have := hE2.out; rw [List.append_nil] at this; rw [← this, bs_of])
      go_wp2_with fail
      go_ret
      exact ⟨ret_bool (by rw [e9.out]; simp), hB7.out⟩
    · have hr1 : (0 : Int) < r.length := by omega
      have hr2 : ((r.length : Int) == 0) = false := by rw [beq_eq_false_iff_ne]; omega
      clear hr0
      go_wp2_with fail
      refine (left_any _ _ _ _ hR5).mono ?_
      rintro e w7 ⟨rfl, hB⟩
      have hB7 := hid (hB5.out.trans (hB.mono hB5.out.size))
      clear hB hR5 hB5
      have hc2 := Hc.out
      go_wp2_with fail
      go_ret
      exact ⟨rfl, hB7.out⟩
set_option maxRecDepth 20000 in
set_option maxHeartbeats 2000000 in
theorem again_3 (s : ByteArray) (n : Int) (w : World) (hn : I64 n) (hs : s.size ≤ 400) (he : Env w) (hk : kd n = 3) :
    Calls Tryd.prog 4 #[.string s, .int .i64 n] w fun e w' => e = .returned (.bool true) ∧ Below w.heap.size w w' := by
  have hk' := hid hk
  clear hk
  have hl2 : s.data.toList.length ≤ 1000000000000 := by have := size_list s; omega
  have Hs := hid (show s.data.toList.length ≤ 400 by have := size_list s; omega)
  have hsl := hid (size_list s)
  go_enter Tryd.func4, Tryd.ntmps4
  go_wp2_with fail
  refine (small_any _ he).mono ?_
  rintro e w0 ⟨rfl, hB1⟩
  go_wp2_with fail
  refine (open_any s w0).mono ?_
  rintro e w1 ⟨rfl, hR0, hB⟩
  have hB1' := hid (hB1.trans (hB.mono hB1.size))
  have hbz := hid hB1.size
  have hbz1 := hR0.lt
  clear hB hB1
  go_wp2_with fail
  refine (kind_any n 0 ⟨#[]⟩ none 0 0 none 0 0 _ hn).mono ?_
  rw [hk'.out]
  rintro e w2 ⟨rfl, hB⟩
  have hB2 := hid (hB1'.out.trans (hB.mono hB1'.out.size))
  have hR : Rd w2 w0.heap.size s.data.toList false := Blk.below hR0 hB hR0.lt
  clear hB hB1' hR0
  generalize w0.heap.size = b at *
  have H := hid (numsR_any w he _ hbz.out _ false _ hB2.out hR (by intro h; cases h) hl2)
  cases hr : listL fI s.data.toList with
  | none =>
    rw [hr] at H
    clear hr
    go_wp2_with fail
    refine H.out.mono ?_
    rintro e w3 ⟨rfl, hR3, hg⟩
    have hB3 := hid (bg hB2.out hg hbz.out)
    clear hR H hB2 hg
    go_wp2_with fail
    refine (wNums_any none 0 [] w3 (by simp) (by simp) SlR.nil (he.below hB3.out)).mono ?_
    generalize (bs (encL (([] : List Int).map encI))) = t0
    rintro e w4 ⟨rfl, hB⟩
    have hR4 : Rd w4 b [] true := Blk.below hR3 hB hR3.lt
    have hB4 := hid (hB3.out.trans (hB.mono hB3.out.size))
    clear hB hR3 hB3
    go_wp2_with fail
    refine (left_any _ _ _ _ hR4).mono ?_
    rw [List.length_nil]
    rintro e w5 ⟨rfl, hB⟩
    have hR5 : Rd w5 b [] true := Blk.below hR4 hB hR4.lt
    have hB5 := hid (hB4.out.trans (hB.mono hB4.out.size))
    clear hB hR4 hB4
    go_wp2_with fail
    refine (done_any _ _ _ _ hR5).mono ?_
    rw [Bool.not_true, Bool.false_and]
    rintro e w6 ⟨rfl, hB⟩
    have hB6 := hid (hB5.out.trans (hB.mono hB5.out.size))
    go_wp2_with fail
    go_ret
    exact ⟨rfl, hB6.out⟩
  | some vr =>
    obtain ⟨v, r⟩ := vr
    rw [hr] at H
    have hE := hid (show s.data.toList = encL (v.map encI) ++ r from listL_split (enc := encI) fI_split hr)
    have hv := hid (listI_bd hr).1
    have hv2 := hid (listI_len hr)
    clear hr
    go_wp2_with fail
    refine H.out.mono ?_
    rintro e w3 ⟨sv, rfl, hown, hR3, hg⟩
    have hB3 := hid (bg hB2.out hg hbz.out)
    obtain ⟨A', c', rfl, _, _, hsl3⟩ := hown.slr hv.out
    clear hR H hB2 hg
    go_wp2_with fail
    refine (wNums_any A' c' v w3 (l1_bound hv.out (Nat.le_trans hv2.out Hs.out)) (by have := hv2.out; omega) hsl3 (he.below hB3.out)).mono ?_
    have hE2 := hid hE.out
    obtain ⟨t0, ht0⟩ : ∃ t0, t0 = encL (v.map encI) := ⟨_, rfl⟩
    rw [← ht0] at hE2 ⊢
    have Ht0 := hid ht0
    clear ht0 hE
    rintro e w4 ⟨rfl, hB⟩
    have hR4 : Rd w4 b r false := Blk.below hR3 hB hR3.lt
    have hB4 := hid (hB3.out.trans (hB.mono hB3.out.size))
    clear hB hR3 hB3
    have hz1 : (r.length : Int) ≤ s.size := by have := hsl.out; rw [hE2.out, List.length_append] at this; omega
    have hz2 : s.size - (r.length : Int) = t0.length := by have := hsl.out; rw [hE2.out, List.length_append] at this; omega
    have Hz2 := hid hz2
    clear hz2
    have hcmp : ((bs t0).toList == (s.extract 0 (max 0 (min (↑s.size - ↑r.length) ↑s.size) : Int).toNat).toList) = true := by
      rw [Hz2.out, bs_list]
      have e1 : s = bs (t0 ++ r) := by rw [← hE2.out, bs_of]
      have e2 : (max 0 (min (↑t0.length) ↑s.size) : Int).toNat = t0.length := by have := Hz2.out; omega
      rw [e2, e1, bs_extract, List.drop_zero, List.take_left, bs_list]
      simp
    have Hc := hid hcmp
    clear hcmp
    go_wp2_with fail
    refine (left_any _ _ _ _ hR4).mono ?_
    rintro e w5 ⟨rfl, hB⟩
    have hR5 : Rd w5 b r false := Blk.below hR4 hB hR4.lt
    have hB5 := hid (hB4.out.trans (hB.mono hB4.out.size))
    clear hB hR4 hB4
    by_cases hr0 : r.length = 0
    · obtain rfl : r = [] := List.eq_nil_of_length_eq_zero hr0
      simp only [List.length_nil] at *
      go_wp2_with fail
      refine (done_any _ _ _ _ hR5).mono ?_
      rw [Bool.not_false, Bool.true_and, List.isEmpty_nil]
      rintro e w6 ⟨rfl, hB⟩
      have hR6 : Rd w6 b [] false := Blk.below hR5 hB hR5.lt
      have hB6 := hid (hB5.out.trans (hB.mono hB5.out.size))
      clear hB hR5 hB5
      go_wp2_with fail
      refine (left_any _ _ _ _ hR6).mono ?_
      rintro e w7 ⟨rfl, hB⟩
      have hB7 := hid (hB6.out.trans (hB.mono hB6.out.size))
      clear hB hR6 hB6
      simp only [List.length_nil]
      clear Hc
      have e9 := hid (show s = bs t0 by have := hE2.out; rw [List.append_nil] at this; rw [← this, bs_of])
      go_wp2_with fail
      go_ret
      exact ⟨ret_bool (by rw [e9.out]; simp), hB7.out⟩
    · have hr1 : (0 : Int) < r.length := by omega
      have hr2 : ((r.length : Int) == 0) = false := by rw [beq_eq_false_iff_ne]; omega
      clear hr0
      go_wp2_with fail
      refine (left_any _ _ _ _ hR5).mono ?_
      rintro e w7 ⟨rfl, hB⟩
      have hB7 := hid (hB5.out.trans (hB.mono hB5.out.size))
      clear hB hR5 hB5
      have hc2 := Hc.out
      go_wp2_with fail
      go_ret
      exact ⟨rfl, hB7.out⟩
set_option maxRecDepth 20000 in
set_option maxHeartbeats 2000000 in
theorem again_4 (s : ByteArray) (n : Int) (w : World) (hn : I64 n) (hs : s.size ≤ 400) (he : Env w) (hk : kd n = 4) :
    Calls Tryd.prog 4 #[.string s, .int .i64 n] w fun e w' => e = .returned (.bool true) ∧ Below w.heap.size w w' := by
  have hk' := hid hk
  clear hk
  have hl2 : s.data.toList.length ≤ 1000000000000 := by have := size_list s; omega
  have Hs := hid (show s.data.toList.length ≤ 400 by have := size_list s; omega)
  have hsl := hid (size_list s)
  go_enter Tryd.func4, Tryd.ntmps4
  go_wp2_with fail
  refine (small_any _ he).mono ?_
  rintro e w0 ⟨rfl, hB1⟩
  go_wp2_with fail
  refine (open_any s w0).mono ?_
  rintro e w1 ⟨rfl, hR0, hB⟩
  have hB1' := hid (hB1.trans (hB.mono hB1.size))
  have hbz := hid hB1.size
  have hbz1 := hR0.lt
  clear hB hB1
  go_wp2_with fail
  refine (kind_any n 0 ⟨#[]⟩ none 0 0 none 0 0 _ hn).mono ?_
  rw [hk'.out]
  rintro e w2 ⟨rfl, hB⟩
  have hB2 := hid (hB1'.out.trans (hB.mono hB1'.out.size))
  have hR : Rd w2 w0.heap.size s.data.toList false := Blk.below hR0 hB hR0.lt
  clear hB hB1' hR0
  generalize w0.heap.size = b at *
  have H := hid (textsR_any w he _ hbz.out _ false _ hB2.out hR (by intro h; cases h) hl2)
  cases hr : listL textL s.data.toList with
  | none =>
    rw [hr] at H
    clear hr
    go_wp2_with fail
    refine H.out.mono ?_
    rintro e w3 ⟨rfl, hR3, hg⟩
    have hB3 := hid (bg hB2.out hg hbz.out)
    clear hR H hB2 hg
    go_wp2_with fail
    refine (wTexts_any none 0 [] w3 (by simp) (by simp) (by simp) SlR.nil (he.below hB3.out)).mono ?_
    generalize (bs (encL (([] : List ByteArray).map encB))) = t0
    rintro e w4 ⟨rfl, hB⟩
    have hR4 : Rd w4 b [] true := Blk.below hR3 hB hR3.lt
    have hB4 := hid (hB3.out.trans (hB.mono hB3.out.size))
    clear hB hR3 hB3
    go_wp2_with fail
    refine (left_any _ _ _ _ hR4).mono ?_
    rw [List.length_nil]
    rintro e w5 ⟨rfl, hB⟩
    have hR5 : Rd w5 b [] true := Blk.below hR4 hB hR4.lt
    have hB5 := hid (hB4.out.trans (hB.mono hB4.out.size))
    clear hB hR4 hB4
    go_wp2_with fail
    refine (done_any _ _ _ _ hR5).mono ?_
    rw [Bool.not_true, Bool.false_and]
    rintro e w6 ⟨rfl, hB⟩
    have hB6 := hid (hB5.out.trans (hB.mono hB5.out.size))
    go_wp2_with fail
    go_ret
    exact ⟨rfl, hB6.out⟩
  | some vr =>
    obtain ⟨v, r⟩ := vr
    rw [hr] at H
    have hE := hid (show s.data.toList = encL (v.map encT) ++ r from listL_split (enc := encT) (fun l x r h => textL_split h) hr)
    have hv := hid (listS_bd hr).1
    have hv2 := hid (listS_len hr)
    clear hr
    go_wp2_with fail
    refine H.out.mono ?_
    rintro e w3 ⟨sv, rfl, hown, hR3, hg⟩
    have hB3 := hid (bg hB2.out hg hbz.out)
    obtain ⟨A', c', rfl, _, _, hsl3⟩ := hown.slr (fun x hx => Nat.le_trans (hv.out x hx) (Nat.le_trans hl2 (by decide)))
    clear hR H hB2 hg
    go_wp2_with fail
    rw [show v.length = (v.map bs).length by rw [List.length_map]]
    refine (wTexts_any A' c' (v.map bs) w3 (l2_bound (by intro x hx; obtain ⟨y, hy, rfl⟩ := List.mem_map.1 hx; rw [bs_size]; exact Nat.le_trans (hv.out y hy) Hs.out) (by rw [List.length_map]; exact Nat.le_trans hv2.out Hs.out)) (by rw [List.length_map]; have := hv2.out; omega) (by intro x hx; obtain ⟨y, hy, rfl⟩ := List.mem_map.1 hx; rw [bs_size]; exact Nat.le_trans (hv.out y hy) (Nat.le_trans Hs.out (by decide))) hsl3 (he.below hB3.out)).mono ?_
    rw [show (v.map bs).map encB = v.map encT by rw [List.map_map]; apply List.map_congr_left; intro x _; simp [encB, bs]]
    have hE2 := hid hE.out
    obtain ⟨t0, ht0⟩ : ∃ t0, t0 = encL (v.map encT) := ⟨_, rfl⟩
    rw [← ht0] at hE2 ⊢
    have Ht0 := hid ht0
    clear ht0 hE
    rintro e w4 ⟨rfl, hB⟩
    have hR4 : Rd w4 b r false := Blk.below hR3 hB hR3.lt
    have hB4 := hid (hB3.out.trans (hB.mono hB3.out.size))
    clear hB hR3 hB3
    have hz1 : (r.length : Int) ≤ s.size := by have := hsl.out; rw [hE2.out, List.length_append] at this; omega
    have hz2 : s.size - (r.length : Int) = t0.length := by have := hsl.out; rw [hE2.out, List.length_append] at this; omega
    have Hz2 := hid hz2
    clear hz2
    have hcmp : ((bs t0).toList == (s.extract 0 (max 0 (min (↑s.size - ↑r.length) ↑s.size) : Int).toNat).toList) = true := by
      rw [Hz2.out, bs_list]
      have e1 : s = bs (t0 ++ r) := by rw [← hE2.out, bs_of]
      have e2 : (max 0 (min (↑t0.length) ↑s.size) : Int).toNat = t0.length := by have := Hz2.out; omega
      rw [e2, e1, bs_extract, List.drop_zero, List.take_left, bs_list]
      simp
    have Hc := hid hcmp
    clear hcmp
    go_wp2_with fail
    refine (left_any _ _ _ _ hR4).mono ?_
    rintro e w5 ⟨rfl, hB⟩
    have hR5 : Rd w5 b r false := Blk.below hR4 hB hR4.lt
    have hB5 := hid (hB4.out.trans (hB.mono hB4.out.size))
    clear hB hR4 hB4
    by_cases hr0 : r.length = 0
    · obtain rfl : r = [] := List.eq_nil_of_length_eq_zero hr0
      simp only [List.length_nil] at *
      go_wp2_with fail
      refine (done_any _ _ _ _ hR5).mono ?_
      rw [Bool.not_false, Bool.true_and, List.isEmpty_nil]
      rintro e w6 ⟨rfl, hB⟩
      have hR6 : Rd w6 b [] false := Blk.below hR5 hB hR5.lt
      have hB6 := hid (hB5.out.trans (hB.mono hB5.out.size))
      clear hB hR5 hB5
      go_wp2_with fail
      refine (left_any _ _ _ _ hR6).mono ?_
      rintro e w7 ⟨rfl, hB⟩
      have hB7 := hid (hB6.out.trans (hB.mono hB6.out.size))
      clear hB hR6 hB6
      simp only [List.length_nil]
      clear Hc
      have e9 := hid (show s = bs t0 by have := hE2.out; rw [List.append_nil] at this; rw [← this, bs_of])
      go_wp2_with fail
      go_ret
      exact ⟨ret_bool (by rw [e9.out]; simp), hB7.out⟩
    · have hr1 : (0 : Int) < r.length := by omega
      have hr2 : ((r.length : Int) == 0) = false := by rw [beq_eq_false_iff_ne]; omega
      clear hr0
      go_wp2_with fail
      refine (left_any _ _ _ _ hR5).mono ?_
      rintro e w7 ⟨rfl, hB⟩
      have hB7 := hid (hB5.out.trans (hB.mono hB5.out.size))
      clear hB hR5 hB5
      have hc2 := Hc.out
      go_wp2_with fail
      go_ret
      exact ⟨rfl, hB7.out⟩
theorem again_any (s : ByteArray) (n : Int) (w : World) (hs : s.size ≤ maxLen) (hn : I64 n) (he : Env w) :
    Calls Tryd.prog 4 #[.string s, .int .i64 n] w fun e w' => e = .returned (.bool true) ∧ Below w.heap.size w w' := by
  by_cases h4 : s.size ≤ 400
  · have hcase : kd n = 0 ∨ kd n = 1 ∨ kd n = 2 ∨ kd n = 3 ∨ kd n = 4 := by have := kd_bd n; omega
    rcases hcase with hk | hk | hk | hk | hk
    · exact again_0 s n w hn h4 he hk
    · exact again_1 s n w hn h4 he hk
    · exact again_2 s n w hn h4 he hk
    · exact again_3 s n w hn h4 he hk
    · exact again_4 s n w hn h4 he hk
  · have h5 : (400 : Int) < s.size := by omega
    clear h4
    go_enter Tryd.func4, Tryd.ntmps4
    go_wp2_with fail
    refine (small_any _ he).mono ?_
    rintro e w0 ⟨rfl, hB1⟩
    go_wp2_with fail
    go_ret
    exact ⟨rfl, hB1⟩
end Go.Proofs.YtjdblegmpmampaaDoor
