
/- Stock: a map from names to bools that the call makes; rightKinds. -/
import Derived.Test.YtfpehakllnkaeaaGreatDoorStkE
import Derived.Maps.Own
import Derived.Maps.Views
set_option linter.unusedSimpArgs false
set_option linter.unusedVariables false
namespace Go.Proofs.YtfpehakllnkaeaaGreatDoor
open Go.RowKit Go.IntWalk Go.Maps Go.WideMaps

theorem plainElem_bool_inv {H : Type} {P : Program} {e : TypeId} (he : P.underlying e = some .bool) {v : Value} {z : DataW H × List MemPlace} (h : plainElem P e v = some z) : ∃ a, v = .bool a ∧ z = (.lit (.bool a), []) := by
  unfold plainElem at h
  rw [he] at h
  cases v <;> simp at h
  exact ⟨_, rfl, h.symm⟩
/-- A look-up in a map of bools of the call's own. -/
theorem look_bool {H : Type} {P : Program} {w : World} {t k e : TypeId} {b n : Nat} {D : DataW H} (h : w.ownsMap P k (plainElem P e) b n D) (K : Keyed P k) (ht : P.underlying t = some (.map k e)) (he : P.underlying e = some .bool) (hz : (zeroValue e).run P w = .ok (.bool false) w)
    {key : Value} {kl : Lit} (hkey : keyOf P k key = some kl) : ∃ c, (Instr.lookup t (.map (some b)) key false).run P w = .ok (.bool c) w ∧ D.atKey kl (.lit (.bool false)) = .lit (.bool c) := by
  obtain ⟨v, ps, hrun, hv⟩ := h.lookup K ht hz (plainElem_bool he false) hkey
  obtain ⟨c, rfl, hc⟩ := plainElem_bool_inv he hv
  simp only [Prod.mk.injEq] at hc
  exact ⟨c, hrun, hc.1⟩
/-- The set of these names. -/
def setD (l : List ByteArray) : DataW Unit := l.foldl (fun D s => D.put (.string s.data.toList) (.lit (.bool true))) (.map [])
theorem setD_snoc (l : List ByteArray) (s : ByteArray) : setD (l ++ [s]) = (setD l).put (.string s.data.toList) (.lit (.bool true)) := by unfold setD; rw [List.foldl_append]; rfl
theorem rev_ind {α : Type} {p : List α → Prop} (h0 : p []) (h1 : ∀ l x, p l → p (l ++ [x])) (l : List α) : p l := by
  have : ∀ n (l : List α), l.length = n → p l := by
    intro n
    induction n with
    | zero => intro l hl; rw [List.eq_nil_of_length_eq_zero hl]; exact h0
    | succ n ih =>
      intro l hl
      have hne : l ≠ [] := by intro e; rw [e] at hl; simp at hl
      have := h1 l.dropLast (l.getLast hne) (ih _ (by simp; omega))
      rwa [List.dropLast_concat_getLast] at this
  exact this _ l rfl
theorem setD_map (l : List ByteArray) : IsMap (setD l) := by
  induction l using rev_ind with
  | h0 => exact isMap_empty
  | h1 l x ih => rw [setD_snoc]; exact ih.put _ _
theorem bytes_eq {a b : ByteArray} (h : a.data.toList = b.data.toList) : a = b := by
  cases a; cases b; simp at h; rw [h]
theorem setD_at (l : List ByteArray) (s : ByteArray) : (setD l).atKey (.string s.data.toList) (.lit (.bool false)) = .lit (.bool (l.any (fun y => decide (s = y)))) := by
  induction l using rev_ind with
  | h0 => rfl
  | h1 l x ih =>
    rw [setD_snoc]
    by_cases e : s = x
    · subst e
      rw [atKey_put_same (k := .string s.data.toList) (setD_map l) trivial]
      simp
    · rw [atKey_put_other (fun h => e (bytes_eq (by injection h)))]
      rw [ih]
      simp [e]
theorem zeroBool (w : World) : (zeroValue 4).run Tryz.prog w = .ok (.bool false) w := by kernel_rfl
theorem lawStr : Keyed Tryz.prog 9 := string_keyed Tryz.underlying9
def namesOf (ks : List Kd) : List ByteArray := ks.map (·.1)
theorem namesF_go : ∀ (ks : List Kd) (seen : List ByteArray) (k : Nat), namesF seen ks = (namesF seen (ks.take k) && namesF (seen ++ namesOf (ks.take k)) (ks.drop k))
  | ks, seen, 0 => by simp [namesF, namesOf]
  | [], seen, k + 1 => by simp [namesF]
  | x :: ks, seen, k + 1 => by
    simp only [List.take_succ_cons, List.drop_succ_cons, namesF, namesOf, List.map_cons]
    rw [namesF_go ks (seen ++ [x.1]) k]
    simp [namesOf, Bool.and_assoc]
theorem namesF_step {ks : List Kd} {k : Nat} (hk : k < ks.length) : namesF (namesOf (ks.take k)) (ks.drop k) = (kindF ks[k] && (!(namesOf (ks.take k)).any (fun y => decide (ks[k].1 = y))) && namesF (namesOf (ks.take (k + 1))) (ks.drop (k + 1))) := by
  rw [List.drop_eq_getElem_cons hk]
  have e : namesOf (ks.take (k + 1)) = namesOf (ks.take k) ++ [ks[k].1] := by unfold namesOf; rw [List.take_add_one, List.getElem?_eq_getElem hk, Option.toList_some, List.map_append]; rfl
  rw [e]
  rfl
set_option maxRecDepth 100000 in
set_option maxHeartbeats 4000000 in
theorem rightKinds_any (A : Option Addr) (c : Nat) (ks : List Kd) (w : World) (hl : ks.length ≤ 1000000) (h : SlR w w.heap.size A ks) :
    Calls Tryz.prog 48 #[.slice A ks.length c] w fun e w' => e = .returned (.bool (kindsF ks)) ∧ Below w.heap.size w w' := by
  have hmm := @run_makeMap Tryz.prog
  have HBT := hid between_any
  have HKF := hid (show kindsF ks = (namesF [] ks && decide (ks.length ≤ 500)) from rfl)
  go_enter Tryz.func48, Tryz.ntmps48
  go_wp2_with fail
  clear hmm
  go_loopw [9] (fun i wr => ∃ k : Nat, k ≤ ks.length ∧ i = .int .i64 k ∧ namesF [] ks = namesF (namesOf (ks.take k)) (ks.drop k) ∧ wr.ownsMap Tryz.prog 9 (plainElem Tryz.prog 4) w.heap.size k (setD (namesOf (ks.take k))) ∧ Below w.heap.size w wr) (fun i _ => ks.length - (intOf i).toNat)
  case atStart => exact ⟨0, by omega, rfl, by simp [namesOf], World.ownsMap_made _ _ _ _, (Below.refl _ _).alloc (Nat.le_refl _) _⟩
  case round =>
    obtain ⟨k, hk, rfl, hN, hM, hB⟩ := hrel
    have HB := hid hB; have HM := hid hM; have HN := hid hN
    by_cases hlt : k < ks.length
    case neg =>
      obtain rfl : k = ks.length := by omega
      have hK := hid (show kindsF ks = decide (ks.length ≤ 500) by rw [HKF.out, hN, List.drop_length]; simp [namesF])
      clear hN hM hB HM HN
      by_cases h5 : ks.length ≤ 500
      · have h5' : (ks.length : Int) ≤ 500 := by omega
        have hf := hid (show kindsF ks = true by rw [hK.out]; simpa using h5)
        clear h5
        as_aux_lemma =>
          go_wp2_with fail
          go_ret
          exact ⟨ret_bool hf.out.symm, HB.out⟩
      · have h5' : (500 : Int) < (ks.length : Int) := by omega
        have hf := hid (show kindsF ks = false by rw [hK.out]; simpa using h5)
        clear h5
        as_aux_lemma =>
          go_wp2_with fail
          go_ret
          exact ⟨ret_bool (by rw [hf.out]; simp; omega), HB.out⟩
    have hltI : (k : Int) < ks.length := by omega
    have HST := hid (namesF_step hlt)
    have hsn := hid (show namesOf (ks.take (k + 1)) = namesOf (ks.take k) ++ [ks[k].1] by unfold namesOf; rw [List.take_add_one, List.getElem?_eq_getElem hlt, Option.toList_some, List.map_append]; rfl)
    obtain ⟨b, off, rfl, hb, c0, c1, hsz, -⟩ := h.kd hlt
    replace c0 := (bcell hB b _ hb).trans c0
    replace c1 := (bcell hB b _ hb).trans c1
    have hz : b < wr.heap.size := by have := hB.size; omega
    have HKE := hid (keyOf_string_mk Tryz.underlying9 hsz)
    have hwz := hB.size
    have hmz := hM.lt
    clear hN hM hB
    generalize ks[k] = x at *
    obtain ⟨nm, wt⟩ := x
    simp only at c0 c1
    have hkf := hid (show kindF (nm, wt) = (btw nm.size 1 20 && btw wt 1 10000) from rfl)
    have B1 := hid (HB.out.alloc hwz (Obj.cells #[.string nm, .int .i64 wt] 63))
    have X1 := hid (Blk.new wr 63 #[.string nm, .int .i64 wt])
    have M1 := hid (HM.out.alloc (Obj.cells #[.string nm, .int .i64 wt] 63))
    go_wp2_with fail
    refine (HBT.out _ _ _ _).mono ?_
    rintro e w2 ⟨rfl, hB2⟩
    have X2 := hid (X1.out.below hB2 X1.out.lt)
    have B2 := hid (B1.out.trans (hB2.mono B1.out.size))
    have M2 := hid (show w2.ownsMap _ _ _ _ _ _ from M1.out.kept (row := none) ⟨hB2.os, hB2.tape, hB2.output, hB2.size, fun i hi _ => hB2.block i hi⟩ (by simp))
    clear hB2 X1 B1 M1
    cases h1 : btw nm.size 1 20 with
    | false =>
      have hf := hid (show kindsF ks = false by rw [HKF.out, HN.out, HST.out, hkf.out, h1]; rfl)
      as_aux_lemma =>
        go_wp2_with fail
        go_ret
        exact ⟨ret_bool hf.out.symm, B2.out⟩
    | true =>
      have x1 := X2.out.cell 1; have xz := X2.out.lt
      simp at x1
      go_wp2_with fail
      refine (HBT.out _ _ _ _).mono ?_
      rintro e w3 ⟨rfl, hB3⟩
      have X3 := hid (X2.out.below hB3 X2.out.lt)
      have B3 := hid (B2.out.trans (hB3.mono B2.out.size))
      have M3 := hid (show w3.ownsMap _ _ _ _ _ _ from M2.out.kept (row := none) ⟨hB3.os, hB3.tape, hB3.output, hB3.size, fun i hi _ => hB3.block i hi⟩ (by simp))
      clear hB3 X2 B2 M2 x1 xz
      cases h2 : btw wt 1 10000 with
      | false =>
        have hf := hid (show kindsF ks = false by rw [HKF.out, HN.out, HST.out, hkf.out, h1, h2]; rfl)
        as_aux_lemma =>
          go_wp2_with fail
          go_ret
          exact ⟨ret_bool hf.out.symm, B3.out⟩
      | true =>
        have x0 := X3.out.cell 0; have xz := X3.out.lt
        simp at x0
        obtain ⟨cc, hrun, hat⟩ := look_bool M3.out lawStr Tryz.underlying105 Tryz.underlying4 (zeroBool _) HKE.out
        rw [setD_at] at hat
        have hcc := hid (show (namesOf (ks.take k)).any (fun y => decide (nm = y)) = cc by injection hat with hat; injection hat)
        clear hat
        cases cc with
        | true =>
          have hf := hid (show kindsF ks = false by rw [HKF.out, HN.out, HST.out, hkf.out, h1, h2, hcc.out]; rfl)
          as_aux_lemma =>
            go_wp2_with fail
            go_ret
            exact ⟨ret_bool hf.out.symm, B3.out⟩
        | false =>
          have hf := hid (show namesF [] ks = namesF (namesOf (ks.take (k + 1))) (ks.drop (k + 1)) by rw [HN.out, HST.out, hkf.out, h1, h2, hcc.out]; rfl)
          have hkm := hid (show k < maxLen by unfold maxLen; omega)
          as_aux_lemma =>
            go_wp2_with (at_mapUpdate; refine wpList_mapUpdate_own _ rfl _ _ _ 105 rfl 9 4 lawStr Tryz.underlying105 _ w.heap.size k _ rfl M3.out hkm.out _ _ _ rfl rfl HKE.out _ [] (plainElem_bool Tryz.underlying4 true) ?_; intro w4 hM4 hg4; have HM4 := hid hM4; have B4 := hid (B3.out.grown hg4 B3.out.size (fun q e => by injection e with e; omega)); clear hM4 hg4 hrun)
            go_roundw
            case rel => exact ⟨k + 1, by omega, by go_num, hf.out, by rw [hsn.out, setD_snoc]; exact HM4.out, B4.out⟩
            case measure => simp [intOf]; omega
end Go.Proofs.YtfpehakllnkaeaaGreatDoor
