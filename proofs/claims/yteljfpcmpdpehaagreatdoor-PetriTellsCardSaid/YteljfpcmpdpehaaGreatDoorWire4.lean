
/- Wire: the reference's reader. -/
import Derived.Test.YteljfpcmpdpehaaGreatDoorWire3
set_option linter.unusedSimpArgs false
set_option linter.unusedVariables false
namespace Go.Proofs.YteljfpcmpdpehaaGreatDoor
open Go.RowKit Go.IntWalk

/-- Block b is a reader of the reference's. -/
def Rr (w : World) (b : Nat) (l : List UInt8) (bad : Bool) : Prop := Blk w b 86 #[.string (bs l), .bool bad]
def RrRes (w : World) (b : Nat) (bad : Bool) (r : Option (Int × List UInt8)) (e : Ending) (w' : World) : Prop :=
  match r with
  | some (v, l) => e = .returned (.int .i64 v) ∧ Rr w' b l bad ∧ w.grownBy w' (some b)
  | none => e = .returned (.int .i64 0) ∧ Rr w' b [] true ∧ w.grownBy w' (some b)
set_option maxRecDepth 100000 in
set_option maxHeartbeats 400000 in
theorem failR_any (b : Nat) (l : List UInt8) (bad : Bool) (w : World) (h : Rr w b l bad) :
    Calls Tryz.prog 99 #[.pointer (some ⟨b, 0, none⟩)] w fun e w' => e = .returned (.int .i64 0) ∧ Rr w' b [] true ∧ w.grownBy w' (some b) := by
  obtain ⟨c0, c1⟩ := blk2' h
  have f0 := h.frozen 0
  have f1 := h.frozen 1
  have hz := h.lt
  go_enter Tryz.func99, Tryz.ntmps99
  go_wp2_with fail
  go_ret
  refine ⟨rfl, ?_, grown_trans (grown_set _ _ _ _) (grown_set _ _ _ _)⟩
  have := (Blk.set_ h 0 (.string ⟨#[]⟩)).set_ 1 (.bool true)
  simpa [Rr, bs] using this
set_option maxRecDepth 100000 in
set_option maxHeartbeats 400000 in
theorem openR_any (s : ByteArray) (w : World) :
    Calls Tryz.prog 40 #[.string s] w fun e w' => e = .returned (.pointer (some ⟨w.heap.size, 0, none⟩)) ∧ Rr w' w.heap.size s.data.toList false ∧ Below w.heap.size w w' := by
  go_enter Tryz.func40, Tryz.ntmps40
  go_wp2_with fail
  go_ret
  refine ⟨rfl, ?_, (Below.refl _ _).alloc (Nat.le_refl _) _⟩
  unfold Rr
  rw [bs_of]
  exact Blk.new _ _ _
set_option maxRecDepth 100000 in
set_option maxHeartbeats 400000 in
theorem leftR_any (b : Nat) (l : List UInt8) (bad : Bool) (w : World) (h : Rr w b l bad) :
    Calls Tryz.prog 43 #[.pointer (some ⟨b, 0, none⟩)] w fun e w' => e = .returned (.int .i64 l.length) ∧ Below w.heap.size w w' := by
  obtain ⟨c0, c1⟩ := blk2' h
  go_enter Tryz.func43, Tryz.ntmps43
  go_wp2_with fail
  go_ret
  exact ⟨ret_int (by rw [bs_size]), by (repeat (first | exact Below.refl _ _ | assumption | refine below_drewN ?_ _ | refine Below.drew ?_ | refine Below.alloc ?_ (by (try simp); (try omega)) _ | refine Below.setCell ?_ (by (try simp); (try omega)) _))⟩
set_option maxRecDepth 100000 in
set_option maxHeartbeats 400000 in
theorem doneR_any (b : Nat) (l : List UInt8) (bad : Bool) (w : World) (h : Rr w b l bad) :
    Calls Tryz.prog 45 #[.pointer (some ⟨b, 0, none⟩)] w fun e w' => e = .returned (.bool (!bad && l.isEmpty)) ∧ Below w.heap.size w w' := by
  obtain ⟨c0, c1⟩ := blk2' h
  cases bad with
  | true =>
    go_enter Tryz.func45, Tryz.ntmps45
    go_wp2_with fail
    go_ret
    exact ⟨rfl, by (repeat (first | exact Below.refl _ _ | assumption | refine below_drewN ?_ _ | refine Below.drew ?_ | refine Below.alloc ?_ (by (try simp); (try omega)) _ | refine Below.setCell ?_ (by (try simp); (try omega)) _))⟩
  | false =>
    go_enter Tryz.func45, Tryz.ntmps45
    go_wp2_with fail
    go_ret
    exact ⟨ret_bool (by rw [bs_list]; rfl), by (repeat (first | exact Below.refl _ _ | assumption | refine below_drewN ?_ _ | refine Below.drew ?_ | refine Below.alloc ?_ (by (try simp); (try omega)) _ | refine Below.setCell ?_ (by (try simp); (try omega)) _))⟩
def CrRes (w : World) (b : Nat) (bad : Bool) (r : Option (List UInt8)) (e : Ending) (w' : World) : Prop :=
  match r with
  | some l => e = .returned (.bool true) ∧ w.grownBy w' (some b) ∧ Rr w' b l bad
  | none => e = .returned (.bool false) ∧ w.grownBy w' (some b) ∧ Rr w' b [] true
theorem bs_get0 (c : UInt8) (l : List UInt8) : (bs (c :: l))[0]'(by rw [bs_size]; simp) = c := by
  have h := sz_get (bs (c :: l)) 0 (by rw [bs_size]; simp) (by simp [bs])
  refine Eq.trans h ?_
  simp [bs]
set_option maxRecDepth 100000 in
set_option maxHeartbeats 400000 in
theorem closeR_any (b : Nat) (l : List UInt8) (bad : Bool) (c : UInt8) (w : World) (h : Rr w b l bad) (hl : l.length ≤ 1000000000000) :
    Calls Tryz.prog 80 #[.pointer (some ⟨b, 0, none⟩), .int .u8 c.toNat] w (CrRes w b bad (cutL l c)) := by
  obtain ⟨c0, c1⟩ := blk2' h
  have f0 := h.frozen 0
  have hz := h.lt
  cases l with
  | nil =>
    have h0 : (bs []).size = 0 := rfl
    go_enter Tryz.func80, Tryz.ntmps80
    go_wp2_with fail
    refine (failR_any b [] bad _ h).mono ?_
    rintro e w2 ⟨rfl, h2, hg⟩
    go_wp2_with fail
    go_ret
    exact ⟨rfl, hg, h2⟩
  | cons x r =>
    have h0 : 0 < (bs (x :: r)).size := by rw [bs_size]; simp
    have hz2 : (bs (x :: r)).size ≤ 1000000000000 := by rw [bs_size]; exact hl
    have g0 := bs_get0 x r
    have G0 := hid g0
    clear g0
    by_cases hx : x = c
    · subst hx
      have e1 : ((bs (x :: r))[0].toNat == x.toNat) = true := by rw [G0.out]; simp
      have e2 : (((bs (x :: r))[0].toNat : Int) == (x.toNat : Int)) = true := by rw [G0.out]; simp
      have hc := hid (show cutL (x :: r) x = some r by simp [cutL])
      go_enter Tryz.func80, Tryz.ntmps80
      go_wp2_with fail
      go_ret
      rw [hc.out]
      refine ⟨rfl, grown_set _ _ _ _, ?_⟩
      have := Blk.set_ h 0 (.string (bs r))
      have e : (bs (x :: r)).extract 1 (bs (x :: r)).size = bs r := by rw [bs_extract, bs_size, List.take_length]; simp
      rw [e]
      unfold Rr
      simpa using this
    · have hx2 : (bs (x :: r))[0].toNat ≠ c.toNat := by rw [G0.out]; intro h; exact hx (UInt8.toNat_inj.1 h)
      have e1 : ((bs (x :: r))[0].toNat == c.toNat) = false := by simpa using hx2
      have e2 : (((bs (x :: r))[0].toNat : Int) == (c.toNat : Int)) = false := by rw [beq_eq_false_iff_ne]; omega
      clear hx2
      have hc := hid (show cutL (x :: r) c = none by simp [cutL, hx])
      go_enter Tryz.func80, Tryz.ntmps80
      go_wp2_with fail
      refine (failR_any b (x :: r) bad _ h).mono ?_
      rintro e w2 ⟨rfl, h2, hg⟩
      go_wp2_with fail
      go_ret
      rw [hc.out]
      exact ⟨rfl, hg, h2⟩

theorem first_occ {l a r : List UInt8} {en : UInt8} {k : Nat} (h : l = a ++ en :: r) (ha : ∀ x ∈ a, x ≠ en) (hk : k < l.length) (he : l[k] = en) (hn : ∀ x ∈ l.take k, x ≠ en) : a = l.take k := by
  have h2 : l = l.take k ++ en :: l.drop (k + 1) := by
    conv => lhs; rw [← List.take_append_drop k l, List.drop_eq_getElem_cons hk, he]
  have i1 := index_app en r a ha
  have i2 := index_app en (l.drop (k + 1)) (l.take k) hn
  rw [← h] at i1
  rw [← h2, i1] at i2
  have hl : a.length = (l.take k).length := by omega
  have h3 : a ++ en :: r = l.take k ++ en :: l.drop (k + 1) := by rw [← h, ← h2]
  exact (List.append_inj h3 hl).1
theorem itoa_not (v : Int) (en : UInt8) (h : 57 < en.toNat) : ∀ x ∈ Lib.itoa v, x ≠ en := by
  intro x hx e
  have := itoa_range v x hx
  rw [e] at this
  omega
theorem ahead_none {l : List UInt8} {en : UInt8} {m : Int} (h : ∀ x ∈ l.take 21, x ≠ en) : numL l en m = none := by
  cases hr : numL l en m with
  | none => rfl
  | some vr =>
    obtain ⟨v, r⟩ := vr
    exfalso
    have h1 := numL_split hr
    have h20 := itoa_len20 v (numL_bd hr)
    refine h en ?_ rfl
    rw [h1, List.take_append, List.mem_append]
    right
    rw [show 21 - (Lib.itoa v).length = (20 - (Lib.itoa v).length) + 1 by omega, List.take_succ_cons]
    exact List.mem_cons_self
theorem ahead_some {l : List UInt8} {en : UInt8} {m v : Int} {k : Nat} (hen : 57 < en.toNat) (hk : k < l.length) (he : l[k] = en) (hv : I64 v) (hi : Lib.itoa v = l.take k) (hm : m ≤ v) : numL l en m = some (v, l.drop (k + 1)) := by
  have h2 : l = Lib.itoa v ++ en :: l.drop (k + 1) := by
    rw [hi]
    conv => lhs; rw [← List.take_append_drop k l, List.drop_eq_getElem_cons hk, he]
  have := numL_itoa v hv en m (l.drop (k + 1)) hen hm
  rwa [← h2] at this
theorem ahead_no {l : List UInt8} {en : UInt8} {m : Int} {k : Nat} (hen : 57 < en.toNat) (hk : k < l.length) (he : l[k] = en) (hn : ∀ x ∈ l.take k, x ≠ en) (hb : ∀ v, I64 v → Lib.itoa v ≠ l.take k) : numL l en m = none := by
  cases hr : numL l en m with
  | none => rfl
  | some vr =>
    obtain ⟨v, r⟩ := vr
    exact absurd (first_occ (numL_split hr) (itoa_not v en hen) hk he hn) (hb v (numL_bd hr))
theorem bs_get (l : List UInt8) (k : Nat) (h : k < l.length) : (bs l)[k]'(by rw [bs_size]; exact h) = l[k] := by
  have h1 := sz_get (bs l) k (by rw [bs_size]; exact h) (by simpa [bs] using h)
  rw [h1]; simp [bs]
theorem take_not {l : List UInt8} {en : UInt8} {k : Nat} (hk : k < l.length) (h : ∀ x ∈ l.take k, x ≠ en) (h2 : l[k] ≠ en) : ∀ x ∈ l.take (k + 1), x ≠ en := by
  intro x hx
  rw [List.take_add_one, List.getElem?_eq_getElem hk] at hx
  rcases List.mem_append.1 hx with hx | hx
  · exact h x hx
  · rw [show (some l[k]).toList = [l[k]] from rfl] at hx
    rw [List.mem_singleton.1 hx]; exact h2
theorem rrRes_none {w w' : World} {b : Nat} {bad : Bool} {r : Option (Int × List UInt8)} {e : Ending} (hr : r = none) (he : e = .returned (.int .i64 0)) (h1 : Rr w' b [] true) (h2 : w.grownBy w' (some b)) : RrRes w b bad r e w' := by
  subst hr; exact ⟨he, h1, h2⟩
set_option maxRecDepth 100000 in
set_option maxHeartbeats 2000000 in
theorem aheadR_any (b : Nat) (l : List UInt8) (bad : Bool) (en : UInt8) (hen : 57 < en.toNat) (w : World) (h : Rr w b l bad) (hl : l.length ≤ 1000000000000) :
    Calls Tryz.prog 78 #[.pointer (some ⟨b, 0, none⟩), .int .u8 en.toNat] w (RrRes w b bad (numL l en (-9223372036854775808))) := by
  obtain ⟨c0, c1⟩ := blk2' h
  have f0 := h.frozen 0
  have hz := h.lt
  have hz2 : (bs l).size ≤ 1000000000000 := by rw [bs_size]; exact hl
  have hsz := hid (bs_size l)
  have Hen := hid hen
  clear hen
  go_enter Tryz.func78, Tryz.ntmps78
  go_wp2_with fail
  go_loop [5] (fun n => ∃ k : Nat, k ≤ (bs l).size ∧ k ≤ 21 ∧ n = .int .i64 k ∧ Hid (∀ x ∈ l.take k, x ≠ en)) (fun n => (bs l).size - (intOf n).toNat)
  case atStart => exact ⟨0, by omega, by omega, rfl, by simp [Hid]⟩
  case round =>
    obtain ⟨k, hk, hk21, rfl, hno⟩ := hrel
    by_cases hlt : k < (bs l).size
    · have hll : k < l.length := by rw [bs_size] at hlt; exact hlt
      have hge := hid (bs_get l k hll)
      have hst := hid (take_not hll hno.out)
      have hsm := hid (fun (v : Int) he hv hi hm => ahead_some (m := -9223372036854775808) (v := v) Hen.out hll he hv hi hm)
      have hnn := hid (fun he hb => ahead_no (m := -9223372036854775808) Hen.out hll he hno.out hb)
      rw [← hge.out] at hst hsm hnn
      by_cases hx : (bs l)[k] = en
      · have e1 : ((bs l)[k].toNat == en.toNat) = true := by rw [hx]; simp
        have e2 : (((bs l)[k].toNat : Int) == (en.toNat : Int)) = true := by rw [hx]; simp
        have hsm2 := hid (fun (v : Int) => hsm.out v hx)
        have hnn2 := hid (hnn.out hx)
        clear hst hsm hnn hge hno hx
        have hk2 : (k : Int) + 1 ≤ (bs l).size := by omega
        by_cases h21 : (k : Int) < 21
        all_goals
          go_wp2_with fail
          refine (backR_any _ _ (by rw [bs_extract, bs_size]; simp; omega)).mono ?_
          rw [show ((bs l).extract 0 k).data.toList = l.take k by rw [bs_extract]; simp [bs]]
          rintro e w1 ⟨hbr, hB⟩
          have h1 : Rr w1 b l bad := Blk.below h hB h.lt
          obtain ⟨d0, d1⟩ := blk2' h1
          have f1 := h1.frozen 0
          have hz1 := h1.lt
          rcases hbr with ⟨v, hv, hi, rfl⟩ | ⟨v, hv, hi, rfl⟩
          · have hr := hid (hsm2.out v hv hi hv.1)
            clear hsm2 hnn2 hi c0 c1
            go_wp2_with fail
            go_ret
            rw [hr.out]
            refine ⟨rfl, ?_, grown_trans (grown_below hB) (grown_set _ _ _ _)⟩
            have := Blk.set_ h1 0 (.string (bs (l.drop (k + 1))))
            have e : (bs l).extract (k + 1) (bs l).size = bs (l.drop (k + 1)) := by rw [bs_extract, bs_size, List.take_length]
            unfold Rr
            rw [← e] at this ⊢
            simpa using this
          · have hr := hid (hnn2.out hi)
            clear hsm2 hnn2 hi c0 c1
            go_wp2_with fail
            refine (failR_any b l bad _ h1).mono ?_
            rintro e w2 ⟨rfl, h2, hg⟩
            go_wp2_with fail
            go_ret
            exact rrRes_none hr.out rfl h2 (grown_trans (grown_below hB) hg)
      · have hxn : (bs l)[k].toNat ≠ en.toNat := fun h => hx (UInt8.toNat_inj.1 h)
        have e1 : ((bs l)[k].toNat == en.toNat) = false := by simpa using hxn
        have e2 : (((bs l)[k].toNat : Int) == (en.toNat : Int)) = false := by rw [beq_eq_false_iff_ne]; omega
        clear hxn
        have hst2 := hid (hst.out hx)
        clear hst hsm hnn hge hx
        by_cases h21 : (k : Int) < 21
        · go_wp2_with fail
          go_round
          case rel => exact ⟨k + 1, by omega, by omega, by go_num, hst2⟩
          case measure => simp [intOf]; omega
        · have hr := hid (ahead_none (m := -9223372036854775808) (l := l) (en := en) (by rw [show 21 = k by omega]; exact hno.out))
          go_wp2_with fail
          refine (failR_any b l bad _ h).mono ?_
          rintro e w2 ⟨rfl, h2, hg⟩
          go_wp2_with fail
          go_ret
          exact rrRes_none hr.out rfl h2 hg
    · have hr := hid (ahead_none (m := -9223372036854775808) (l := l) (en := en) (by
        have : l.take k = l := List.take_of_length_le (by rw [← bs_size]; omega)
        have hn := hno.out
        rw [this] at hn
        intro x hx
        exact hn x (List.mem_of_mem_take hx)))
      go_wp2_with fail
      refine (failR_any b l bad _ h).mono ?_
      rintro e w2 ⟨rfl, h2, hg⟩
      go_wp2_with fail
      go_ret
      exact rrRes_none hr.out rfl h2 hg
end Go.Proofs.YteljfpcmpdpehaaGreatDoor
