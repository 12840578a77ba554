
/- Wire: the reader. -/
import Derived.Test.YtbefmjodpndndaaDoorWireC
set_option linter.unusedSimpArgs false
set_option linter.unusedVariables false
namespace Go.Proofs.YtbefmjodpndndaaDoor
open Go.RowKit Go.IntWalk

theorem bs_list (l : List UInt8) : (bs l).toList = l := by
  have h : (bs l).toList = (bs l).data.toList := by first | exact ByteArray.toList_eq_data_toList _ | rw [ByteArray.toList_eq] | simp
  rw [h]; simp [bs]
theorem bs_extract (l : List UInt8) (i j : Nat) : (bs l).extract i j = bs ((l.take j).drop i) := by
  apply ByteArray.ext
  rw [ByteArray.data_extract]
  simp [bs, List.extract_toArray, List.drop_take]
theorem head_of (l : List UInt8) : (bs l).extract 0 (min ((bs l).size : Int) 21).toNat = bs (l.take 21) := by
  rw [bs_extract, bs_size, List.drop_zero]
  congr 1
  by_cases h : l.length ≤ 21
  · rw [show (min (l.length : Int) 21).toNat = l.length by omega, List.take_of_length_le (Nat.le_refl _), List.take_of_length_le h]
  · rw [show (min (l.length : Int) 21).toNat = 21 by omega]
/-- Block b is a reader with these bytes left, failed or not. -/
def Rd (w : World) (b : Nat) (l : List UInt8) (bad : Bool) : Prop := Blk w b 73 #[.string (bs l), .bool bad]
theorem blk2' {w : World} {g : Nat} {t : TypeId} {a b : Value} (h : Blk w g t #[a, b]) : w.cell? ⟨g, 0, none⟩ = some a ∧ w.cell? ⟨g, 1, none⟩ = some b := ⟨h.cell 0, h.cell 1⟩
theorem grown_trans {w w1 w2 : World} {r : Option Nat} (h : w.grownBy w1 r) (h2 : w1.grownBy w2 r) : w.grownBy w2 r :=
  ⟨h2.os.trans h.os, h2.tape.trans h.tape, h2.output.trans h.output, Nat.le_trans h.size h2.size, fun k hk hne => (h2.block k (Nat.lt_of_lt_of_le hk h.size) hne).trans (h.block k hk hne)⟩
theorem grown_below {w w1 : World} {r : Option Nat} (h : Below w.heap.size w w1) : w.grownBy w1 r := ⟨h.os, h.tape, h.output, h.size, fun k hk _ => h.block k hk⟩
theorem grown_set (w : World) (b i : Nat) (u : Value) : w.grownBy (w.setCell ⟨b, i, none⟩ u) (some b) :=
  ⟨rfl, rfl, rfl, by simp, fun k _ hne => Below.heap_setCell w ⟨b, i, none⟩ u k (fun e => hne (by rw [e]))⟩

set_option maxRecDepth 100000 in
set_option maxHeartbeats 400000 in
theorem fail_any (b : Nat) (l : List UInt8) (bad : Bool) (w : World) (h : Rd w b l bad) :
    Calls Tryd.prog 39 #[.pointer (some ⟨b, 0, none⟩)] w fun e w' => e = .returned (.tuple #[]) ∧ Rd w' b [] true ∧ w.grownBy w' (some b) := by
  obtain ⟨c0, c1⟩ := blk2' h
  have f0 := h.frozen 0
  have f1 := h.frozen 1
  have hz := h.lt
  go_enter Tryd.func39, Tryd.ntmps39
  go_wp2_with fail
  go_end0
  refine ⟨rfl, ?_, grown_trans (grown_set _ _ _ _) (grown_set _ _ _ _)⟩
  have := (Blk.set_ h 0 (.string ⟨#[]⟩)).set_ 1 (.bool true)
  simpa [Rd, bs] using this
set_option maxRecDepth 100000 in
set_option maxHeartbeats 400000 in
theorem open_any (s : ByteArray) (w : World) :
    Calls Tryd.prog 12 #[.string s] w fun e w' => e = .returned (.pointer (some ⟨w.heap.size, 0, none⟩)) ∧ Rd w' w.heap.size s.data.toList false ∧ Below w.heap.size w w' := by
  go_enter Tryd.func12, Tryd.ntmps12
  go_wp2_with fail
  go_ret
  refine ⟨rfl, ?_, (Below.refl _ _).alloc (Nat.le_refl _) _⟩
  unfold Rd
  rw [bs_of]
  exact Blk.new _ _ _
set_option maxRecDepth 100000 in
set_option maxHeartbeats 400000 in
theorem left_any (b : Nat) (l : List UInt8) (bad : Bool) (w : World) (h : Rd w b l bad) :
    Calls Tryd.prog 15 #[.pointer (some ⟨b, 0, none⟩)] w fun e w' => e = .returned (.int .i64 l.length) ∧ Below w.heap.size w w' := by
  obtain ⟨c0, c1⟩ := blk2' h
  go_enter Tryd.func15, Tryd.ntmps15
  go_wp2_with fail
  go_ret
  exact ⟨ret_int (by rw [bs_size]), by (repeat (first | exact Below.refl _ _ | assumption | refine below_drewN ?_ _ | refine Below.drew ?_ | refine Below.alloc ?_ (by (try simp); (try omega)) _ | refine Below.setCell ?_ (by (try simp); (try omega)) _))⟩
set_option maxRecDepth 100000 in
set_option maxHeartbeats 400000 in
theorem done_any (b : Nat) (l : List UInt8) (bad : Bool) (w : World) (h : Rd w b l bad) :
    Calls Tryd.prog 14 #[.pointer (some ⟨b, 0, none⟩)] w fun e w' => e = .returned (.bool (!bad && l.isEmpty)) ∧ Below w.heap.size w w' := by
  obtain ⟨c0, c1⟩ := blk2' h
  cases bad with
  | true =>
    go_enter Tryd.func14, Tryd.ntmps14
    go_wp2_with fail
    go_ret
    exact ⟨rfl, by (repeat (first | exact Below.refl _ _ | assumption | refine below_drewN ?_ _ | refine Below.drew ?_ | refine Below.alloc ?_ (by (try simp); (try omega)) _ | refine Below.setCell ?_ (by (try simp); (try omega)) _))⟩
  | false =>
    go_enter Tryd.func14, Tryd.ntmps14
    go_wp2_with fail
    go_ret
    exact ⟨ret_bool (by rw [bs_list]; rfl), by (repeat (first | exact Below.refl _ _ | assumption | refine below_drewN ?_ _ | refine Below.drew ?_ | refine Below.alloc ?_ (by (try simp); (try omega)) _ | refine Below.setCell ?_ (by (try simp); (try omega)) _))⟩

theorem indexByte_lt : ∀ (l : List UInt8) (c : UInt8), 0 ≤ Lib.indexByte l c → Lib.indexByte l c < l.length
  | [], c, h => by simp [Lib.indexByte] at h
  | x :: l, c, h => by
    have ih := indexByte_lt l c
    unfold Lib.indexByte at h ⊢
    simp only [List.length_cons]
    split at h <;> (try split at h) <;> simp_all <;> omega
def numL (l : List UInt8) (en : UInt8) (least : Int) : Option (Int × List UInt8) :=
  if Lib.indexByte (l.take 21) en < 0 then none else
  match Lib.atoiAll ((l.take 21).take (Lib.indexByte (l.take 21) en).toNat) with
  | .ok v => if Lib.itoa v = (l.take 21).take (Lib.indexByte (l.take 21) en).toNat ∧ least ≤ v then some (v, l.drop ((Lib.indexByte (l.take 21) en).toNat + 1)) else none
  | _ => none
/-- What a reader's call leaves. -/
def RdRes (w : World) (b : Nat) (bad : Bool) (r : Option (Int × List UInt8)) (e : Ending) (w' : World) : Prop :=
  match r with
  | some (v, l) => e = .returned (.int .i64 v) ∧ Rd w' b l bad ∧ w.grownBy w' (some b)
  | none => e = .returned (.int .i64 0) ∧ Rd w' b [] true ∧ w.grownBy w' (some b)
theorem rdRes_none {w w' : World} {b : Nat} {bad : Bool} {r : Option (Int × List UInt8)} {e : Ending} (hr : r = none) (he : e = .returned (.int .i64 0)) (h1 : Rd w' b [] true) (h2 : w.grownBy w' (some b)) : RdRes w b bad r e w' := by
  subst hr; exact ⟨he, h1, h2⟩
set_option maxRecDepth 100000 in
set_option maxHeartbeats 1000000 in
theorem number_any (b : Nat) (l : List UInt8) (bad : Bool) (en : UInt8) (least : Int) (w : World) (h : Rd w b l bad) (hl : l.length ≤ 1000000000000) (he : Env w) :
    Calls Tryd.prog 38 #[.pointer (some ⟨b, 0, none⟩), .int .u8 en.toNat, .int .i64 least] w (RdRes w b bad (numL l en least)) := by
  obtain ⟨c0, c1⟩ := blk2' h
  have hz : (bs l).size ≤ 1000000000000 := by rw [bs_size]; exact hl
  go_enter Tryd.func38, Tryd.ntmps38
  go_upto_region 1 with fail
  go_quiet (fail)
  rename_i nq
  go_wp2_with fail
  rw [head_of]
  refine (Tryd.strings_IndexByte _ _ _).mono ?_
  rw [show Lib.indexByte (bs (l.take 21)).data.toList ((en.toNat : Int).toNat.toUInt8) = Lib.indexByte (l.take 21) en by simp [bs]]
  rintro e w1 ⟨rfl, rfl⟩
  obtain ⟨at_, hat⟩ : ∃ x, x = Lib.indexByte (l.take 21) en := ⟨_, rfl⟩
  rw [← hat]
  have Hat := hid hat
  clear hat
  by_cases h0 : at_ < 0
  · have hr := hid (show numL l en least = none by unfold numL; rw [← Hat.out, if_pos h0])
    go_wp2_with fail
    refine (fail_any b l bad _ (h.drewN _)).mono ?_
    rintro e w2 ⟨rfl, h2, hg⟩
    go_wp2_with fail
    go_ret
    exact rdRes_none hr.out rfl h2 (grown_trans (grown_below (by (repeat (first | exact Below.refl _ _ | assumption | refine below_drewN ?_ _ | refine Below.drew ?_ | refine Below.alloc ?_ (by (try simp); (try omega)) _ | refine Below.setCell ?_ (by (try simp); (try omega)) _)))) hg)
  · obtain ⟨k, rfl⟩ : ∃ k : Nat, at_ = k := ⟨at_.toNat, by omega⟩
    clear h0
    have hk0 := indexByte_lt (l.take 21) en (by rw [← Hat.out]; omega)
    rw [← Hat.out] at hk0
    have hk1 := hid (show k < l.length by have := List.length_take_le 21 l; simp at hk0; omega)
    have hk : k ≤ (bs (l.take 21)).size := by rw [bs_size]; omega
    have hk2 : (k : Int) + 1 ≤ (bs l).size := by rw [bs_size]; have := hk1.out; omega
    have hk21 := hid (show k < 21 by have := List.length_take_le 21 l; omega)
    clear hk0
    go_wp2_with fail
    rw [bs_extract, List.drop_zero]
    obtain ⟨d, hd⟩ : ∃ d, d = (l.take 21).take k := ⟨_, rfl⟩
    rw [← hd]
    have Hd := hid hd
    have hdl := hid (show d.length ≤ 21 by rw [hd]; simp; omega)
    clear hd
    have hnum := hid (show numL l en least = (match Lib.atoiAll d with
        | .ok v => if Lib.itoa v = d ∧ least ≤ v then some (v, l.drop (k + 1)) else none
        | _ => none) by unfold numL; rw [← Hat.out, if_neg (by omega), Int.toNat_natCast, ← Hd.out])
    have hba : (bs d).data.toList = d := by simp [bs]
    have hex := hid (show (bs (l.take 21)).extract 0 k = bs d by rw [bs_extract, List.drop_zero, ← Hd.out])
    rcases hat : Lib.atoiAll d with v | _ | _
    · rw [hat] at hnum
      refine (Tryd.strconv_Atoi_ok (bs d) (by rw [bs_size]; have := hdl.out; omega) v (by rw [hba]; exact hat) _).mono ?_
      clear hba
      have hbd := Lib.atoiAll_bounds hat
      clear hat
      rintro e w2 ⟨rfl, hw2⟩
      have hB : Below (w.drewN nq).heap.size (w.drewN nq) w2 := by
        rcases hw2 with rfl | ⟨t, rfl⟩
        · exact Below.refl _ _
        · exact Lib.bytesWorld_below _ _ _
      clear hw2
      have h2 : Rd w2 b l bad := Blk.below (h.drewN nq) hB (h.drewN nq).lt
      have hB2 : Below w.heap.size w w2 := (below_drewN (Below.refl _ w) nq).trans hB
      obtain ⟨c0, c1⟩ := blk2' h2
      have hI : I64 v := ⟨hbd.1, hbd.2⟩
      have hx := fun x : Ext (GB w2) => GB.cell x
      have cs := hid fun x : Ext (GB w2) => GB.call (x := x) (v := .string (bs (Lib.itoa v))) (itoa_any v hI x.w (he.below (hB2.trans (x.h.out.mono hB2.size))))
      have hbl : ((bs (l.take 21)).extract 0 k).toList = d := by rw [hex.out, bs_list]
      by_cases hv : Lib.itoa v = d
      · have hcmp : ((bs (Lib.itoa v)).toList == ((bs (l.take 21)).extract 0 k).toList) = true := by rw [hbl, bs_list, hv]; simp
        clear hbl
        by_cases hlv : least ≤ v
        · have hr := hid (show numL l en least = some (v, l.drop (k + 1)) by rw [hnum.out]; simp [hv, hlv])
          have Hv := hid hv
          clear hv
          go_upto_region 7 with fail
          refine wp_region_ext (GB w2) (by kernel_rfl) (by kernel_rfl) (GB.refl _) ?_
          repeat (go_big_quiet_step (exact cs.out _))
          refine wpQuiet_nil ?_
          intro w3 hG2
          clear hx cs
          have h3 : Rd w3 b l bad := h2.below hG2.out h2.lt
          have hB3 := hB2.trans (hG2.out.mono hB2.size)
          clear hG2 c0 c1
          obtain ⟨c0, c1⟩ := blk2' h3
          have f0 := h3.frozen 0
          have hz3 := h3.lt
          go_wp2_with fail
          go_ret
          rw [hr.out]
          refine ⟨rfl, ?_, grown_trans (grown_below hB3) (grown_set _ _ _ _)⟩
          have h4 := Blk.set_ h3 0 (.string (bs (l.drop (k + 1))))
          have e4 : (bs l).extract (k + 1) (bs l).size = bs (l.drop (k + 1)) := by rw [bs_extract, bs_size, List.take_length]
          unfold Rd
          rw [← e4] at h4 ⊢
          simpa using h4
        · have hr := hid (show numL l en least = none by rw [hnum.out]; simp [hv, hlv])
          have hlv' : v < least := by omega
          clear hv hlv
          go_upto_region 7 with fail
          refine wp_region_ext (GB w2) (by kernel_rfl) (by kernel_rfl) (GB.refl _) ?_
          repeat (go_big_quiet_step (exact cs.out _))
          refine wpQuiet_nil ?_
          intro w3 hG2
          clear hx cs
          go_wp2_with fail
          refine (fail_any b l bad _ (h2.below hG2.out h2.lt)).mono ?_
          rintro e w4 ⟨rfl, h3, hg⟩
          go_wp2_with fail
          go_ret
          exact rdRes_none hr.out rfl h3 (grown_trans (grown_below (hB2.trans (hG2.out.mono hB2.size))) hg)
      · have hcmp : ((bs (Lib.itoa v)).toList == ((bs (l.take 21)).extract 0 k).toList) = false := by rw [hbl, bs_list]; simp [hv]
        have hr := hid (show numL l en least = none by rw [hnum.out]; simp [hv])
        clear hbl hv
        go_upto_region 7 with fail
        refine wp_region_ext (GB w2) (by kernel_rfl) (by kernel_rfl) (GB.refl _) ?_
        repeat (go_big_quiet_step (exact cs.out _))
        refine wpQuiet_nil ?_
        intro w3 hG2
        clear hx cs
        go_wp2_with fail
        refine (fail_any b l bad _ (h2.below hG2.out h2.lt)).mono ?_
        rintro e w4 ⟨rfl, h3, hg⟩
        go_wp2_with fail
        go_ret
        exact rdRes_none hr.out rfl h3 (grown_trans (grown_below (hB2.trans (hG2.out.mono hB2.size))) hg)
    · rw [hat] at hnum
      obtain ⟨tp, p, hv⟩ := he.syn
      refine (Tryd.strconv_Atoi_syn_var (bs d) (by rw [bs_size]; have := hdl.out; omega) (by rw [hba]; exact hat) tp p _ (var_below hv (by (repeat (first | exact Below.refl _ _ | assumption | refine below_drewN ?_ _ | refine Below.drew ?_ | refine Below.alloc ?_ (by (try simp); (try omega)) _ | refine Below.setCell ?_ (by (try simp); (try omega)) _))))).mono ?_
      clear hat hv hba hex
      rintro e w2 ⟨N, rfl, _, _, hB⟩
      have h2 : Rd w2 b l bad := Blk.below (h.drewN nq) hB (h.drewN nq).lt
      have hB2 : Below w.heap.size w w2 := (below_drewN (Below.refl _ w) nq).trans hB
      obtain ⟨c0, c1⟩ := blk2' h2
      go_upto_region 7 with fail
      go_quiet (fail)
      go_wp2_with fail
      refine (fail_any b l bad _ (h2.drewN _)).mono ?_
      rintro e w3 ⟨rfl, h3, hg⟩
      go_wp2_with fail
      go_ret
      exact rdRes_none hnum.out rfl h3 (grown_trans (grown_below (by (repeat (first | exact Below.refl _ _ | assumption | refine below_drewN ?_ _ | refine Below.drew ?_ | refine Below.alloc ?_ (by (try simp); (try omega)) _ | refine Below.setCell ?_ (by (try simp); (try omega)) _)))) hg)
    · rw [hat] at hnum
      obtain ⟨tp, p, hv⟩ := he.rng
      refine (Tryd.strconv_Atoi_range_var (bs d) (by rw [bs_size]; have := hdl.out; omega) (by rw [hba]; exact hat) tp p _ (var_below hv (by (repeat (first | exact Below.refl _ _ | assumption | refine below_drewN ?_ _ | refine Below.drew ?_ | refine Below.alloc ?_ (by (try simp); (try omega)) _ | refine Below.setCell ?_ (by (try simp); (try omega)) _))))).mono ?_
      clear hat hv hba hex
      rintro e w2 ⟨N, rfl, _, _, hB⟩
      have h2 : Rd w2 b l bad := Blk.below (h.drewN nq) hB (h.drewN nq).lt
      have hB2 : Below w.heap.size w w2 := (below_drewN (Below.refl _ w) nq).trans hB
      obtain ⟨c0, c1⟩ := blk2' h2
      go_upto_region 7 with fail
      go_quiet (fail)
      go_wp2_with fail
      refine (fail_any b l bad _ (h2.drewN _)).mono ?_
      rintro e w3 ⟨rfl, h3, hg⟩
      go_wp2_with fail
      go_ret
      exact rdRes_none hnum.out rfl h3 (grown_trans (grown_below (by (repeat (first | exact Below.refl _ _ | assumption | refine below_drewN ?_ _ | refine Below.drew ?_ | refine Below.alloc ?_ (by (try simp); (try omega)) _ | refine Below.setCell ?_ (by (try simp); (try omega)) _)))) hg)
end Go.Proofs.YtbefmjodpndndaaDoor
