
/- Wire: the reference's Back. -/
import Derived.Test.YteljfpcmpdpehaaGreatDoorWireR
import Derived.Test.YteljfpcmpdpehaaGreatDoorWireB
set_option linter.unusedSimpArgs false
set_option linter.unusedVariables false
namespace Go.Proofs.YteljfpcmpdpehaaGreatDoor
open Go.RowKit Go.IntWalk

def pv (l : List UInt8) : Nat := l.foldl (fun a c => a * 10 + (c.toNat - 48)) 0
theorem pv_snoc (l : List UInt8) (c : UInt8) : pv (l ++ [c]) = pv l * 10 + (c.toNat - 48) := by unfold pv; rw [List.foldl_append]; rfl
theorem pv_dec (u : Nat) : pv (Lib.decDigits u) = u := by
  induction u using Nat.strongRecOn with
  | _ u ih =>
    have hd : (UInt8.ofNat (48 + u % 10)).toNat = 48 + u % 10 := by
      first | exact UInt8.toNat_ofNat_of_lt' (by omega) | (show (48 + u % 10) % 256 = _; omega)
    by_cases h10 : u < 10
    · rw [Lib.decDigits_one h10]
      have hd' : (UInt8.ofNat (48 + u)).toNat = 48 + u := by
        first | exact UInt8.toNat_ofNat_of_lt' (by omega) | (show (48 + u) % 256 = _; omega)
      unfold pv
      simp only [List.foldl_cons, List.foldl_nil, hd']
      omega
    · rw [Lib.decDigits.eq_1 u, dif_neg h10, pv_snoc, ih (u / 10) (by omega), hd]
      omega
/-- Where the digits begin. -/
def fr (l : List UInt8) : Nat := match l with | [] => 0 | c :: _ => if c = 45 then 1 else 0
theorem fr_le (l : List UInt8) : fr l ≤ 1 ∧ fr l ≤ l.length := by
  unfold fr
  split
  · simp
  · split <;> simp
theorem itoa_fr {l : List UInt8} {m : Int} (h : Lib.itoa m = l) : l.drop (fr l) = Lib.decDigits m.natAbs ∧ (fr l = 1 → m < 0) ∧ (fr l = 0 → 0 ≤ m) := by
  by_cases hm : m < 0
  · have e : Lib.itoa m = 45 :: Lib.decDigits m.natAbs := by unfold Lib.itoa; rw [if_pos hm]
    rw [e] at h
    subst h
    simp [fr, hm]
  · have e : Lib.itoa m = Lib.decDigits m.natAbs := by unfold Lib.itoa; rw [if_neg hm]; congr 1; omega
    rw [e] at h
    obtain ⟨c, r, hc, h1, h2⟩ := dec_head m.natAbs
    have hf : fr l = 0 := by
      rw [← h, hc]
      unfold fr
      have : ¬ c = 45 := by intro hcc; subst hcc; simp at h1
      simp [this]
    rw [hf]
    exact ⟨by rw [List.drop_zero, ← h], fun hh => by omega, fun _ => by omega⟩
def BackRes (l : List UInt8) (e : Ending) : Prop :=
  (∃ v, I64 v ∧ Lib.itoa v = l ∧ e = .returned (.tuple #[.int .i64 v, .bool true])) ∨ (∃ v, I64 v ∧ (∀ m, I64 m → Lib.itoa m ≠ l) ∧ e = .returned (.tuple #[.int .i64 v, .bool false]))
/-- What the loop knows. -/
structure Bk (l : List UInt8) (k : Nat) (z : Int) : Prop where
  i : I64 z
  d : ∀ c ∈ (l.drop (fr l)).take (k - fr l), 48 ≤ c.toNat ∧ c.toNat ≤ 57
  v : pv ((l.drop (fr l)).take (k - fr l)) ≤ 9223372036854775808 → z = -(pv ((l.drop (fr l)).take (k - fr l)) : Int)
theorem Bk.zero (l : List UInt8) : Bk l (fr l) 0 := ⟨by simp [I64], by simp, by simp [pv]⟩
theorem wrap64_bd (n : Int) : -9223372036854775808 ≤ wrap64 n ∧ wrap64 n ≤ 9223372036854775807 := by unfold wrap64; omega
theorem Bk.step {l : List UInt8} {k : Nat} {z : Int} (h : Bk l k z) (hf : fr l ≤ k) (hk : k < l.length) (h1 : 48 ≤ l[k].toNat) (h2 : l[k].toNat ≤ 57) : Bk l (k + 1) (wrap64 (wrap64 (10 * z) - ((l[k].toNat : Int) - 48))) := by
  have e : (l.drop (fr l)).take (k + 1 - fr l) = (l.drop (fr l)).take (k - fr l) ++ [l[k]] := by
    rw [show k + 1 - fr l = (k - fr l) + 1 by omega, List.take_add_one, List.getElem?_drop, show fr l + (k - fr l) = k by omega, List.getElem?_eq_getElem hk]
    rfl
  refine ⟨wrap64_bd _, ?_, ?_⟩
  · rw [e]
    intro c hc
    rcases List.mem_append.1 hc with hc | hc
    · exact h.d c hc
    · rw [List.mem_singleton.1 hc]; exact ⟨h1, h2⟩
  · rw [e, pv_snoc]
    intro hp
    have hz := h.v (by omega)
    have hi := h.i.bd
    generalize pv ((l.drop (fr l)).take (k - fr l)) = p at *
    unfold wrap64
    omega
theorem Bk.bad {l : List UInt8} {k : Nat} (hf : fr l ≤ k) (hk : k < l.length) (hc : ¬ (48 ≤ l[k].toNat ∧ l[k].toNat ≤ 57)) : ∀ m, I64 m → Lib.itoa m ≠ l := by
  intro m _ he
  have h1 := (itoa_fr he).1
  have hm : l[k] ∈ l.drop (fr l) := by
    have : (l.drop (fr l))[k - fr l]? = some l[k] := by rw [List.getElem?_drop, show fr l + (k - fr l) = k by omega, List.getElem?_eq_getElem hk]
    exact List.mem_of_getElem? this
  rw [h1] at hm
  exact hc (dec_range _ _ hm)
theorem Bk.val {l : List UInt8} {z : Int} (h : Bk l l.length z) {m : Int} (hm : I64 m) (he : Lib.itoa m = l) : (fr l = 1 → z = m) ∧ (fr l = 0 → wrap64 (-z) = m) := by
  obtain ⟨h1, h2, h3⟩ := itoa_fr he
  have hv := h.v
  rw [List.take_of_length_le (by simp), h1, pv_dec] at hv
  have hb := hm.bd
  have := hv (by omega)
  refine ⟨fun hf => by have := h2 hf; omega, fun hf => ?_⟩
  have := h3 hf
  unfold wrap64
  omega
theorem sz_get (s : ByteArray) (k : Nat) (h : k < s.size) (h2 : k < s.data.toList.length) : s[k] = s.data.toList[k] := by simp; rfl
set_option maxRecDepth 100000 in
set_option maxHeartbeats 1000000 in
theorem back1 (s : ByteArray) (w : World) (hs : s.size ≤ 21) (h0 : 0 < s.size) (hm : s[0] = 45) :
    Calls Tryz.prog 100 #[.string s] w fun e w' => BackRes s.data.toList e ∧ Below w.heap.size w w' := by
  have h0' : ((s[0].toNat : Int) == 45) = true := by rw [hm]; rfl
  have hF := hid (show fr s.data.toList = 1 by
    have h := sz_get s 0 h0 (by rw [← size_list]; exact h0)
    rw [hm] at h
    unfold fr
    cases hc : s.data.toList with
    | nil => exact absurd h0 (by rw [size_list, hc]; simp)
    | cons c r => simp [hc] at h; simp [← h])
  clear hm
  have Hl := hid (size_list s)
  go_enter Tryz.func100, Tryz.ntmps100
  go_wp2_with fail
  go_loop [5, 6] (fun n i => ∃ (k : Nat) (z : Int), 1 ≤ k ∧ k ≤ s.size ∧ i = .int .i64 k ∧ n = .int .i64 z ∧ Bk s.data.toList k z) (fun _ i => s.size - (intOf i).toNat)
  case atStart => exact ⟨1, 0, by omega, by omega, rfl, rfl, by have := Bk.zero s.data.toList; rw [hF.out] at this; exact this⟩
  case round =>
    obtain ⟨k, z, hk1, hk2, rfl, rfl, hbk⟩ := hrel
    by_cases hlt : k < s.size
    · have hz := hbk.i.bd
      have hk20 : (k : Int) ≤ 20 := by omega
      have hkl : k < s.data.toList.length := by rw [← Hl.out]; exact hlt
      have hst := hid (hbk.step (by rw [hF.out]; exact hk1) hkl)
      have hbd := hid (Bk.bad (l := s.data.toList) (k := k) (by rw [hF.out]; exact hk1) hkl)
      rw [← sz_get s k hlt hkl] at hst hbd
      by_cases h1 : 48 ≤ (s[k].toNat : Int)
      · by_cases h2 : (s[k].toNat : Int) ≤ 57
        · have hst2 := hid (hst.out (by omega) (by omega))
          clear hst hbd hbk
          go_wp2_with fail
          go_round
          case rel => exact ⟨k + 1, _, by omega, by omega, by go_num, rfl, hst2.out⟩
          case measure => simp [intOf]; omega
        · have hb2 := hid (hbd.out (by omega))
          clear hst hbd hbk
          go_wp2_with fail
          go_ret2
          exact ⟨.inr ⟨0, by simp [I64], hb2.out, rfl⟩, Below.refl _ _⟩
      · have hb2 := hid (hbd.out (by omega))
        clear hst hbd hbk
        go_wp2_with fail
        go_ret2
        exact ⟨.inr ⟨0, by simp [I64], hb2.out, rfl⟩, Below.refl _ _⟩
    · obtain rfl : k = s.size := by omega
      rw [Hl.out] at hbk
      have hz := hbk.i.bd
      have hv := hid (fun m hm he => hbk.val (m := m) hm he)
      clear hbk
      have hI : I64 (z) := ⟨hz.1, hz.2⟩
      by_cases hit : Lib.itoa (z) = s.data.toList
      · have Hit := hid hit
        have hc : ((bs (encI (z))).toList == (s ++ ⟨#[59]⟩).toList) = true := by
          rw [show s ++ ⟨#[59]⟩ = bs (s.data.toList ++ [59]) by rw [← bs_app, bs_of]; rfl, bs_list, bs_list, encI, hit]; simp
        clear hit
        go_wp2_with fail
        refine (rInt_any _ hI _).mono ?_
        rintro e w1 ⟨rfl, hB⟩
        go_wp2_with fail
        go_ret2
        exact ⟨.inl ⟨_, hI, Hit.out, rfl⟩, hB⟩
      · have hno := hid (show ∀ m, I64 m → Lib.itoa m ≠ s.data.toList by
          intro m hm he
          have := (hv.out m hm he).1 hF.out
          rw [← this] at he
          exact hit he)
        have hc : ((bs (encI (z))).toList == (s ++ ⟨#[59]⟩).toList) = false := by
          rw [show s ++ ⟨#[59]⟩ = bs (s.data.toList ++ [59]) by rw [← bs_app, bs_of]; rfl, bs_list, bs_list, encI]
          simp only [beq_eq_false_iff_ne]
          intro h
          exact hit (List.append_cancel_right h)
        clear hit
        go_wp2_with fail
        refine (rInt_any _ hI _).mono ?_
        rintro e w1 ⟨rfl, hB⟩
        go_wp2_with fail
        go_ret2
        exact ⟨.inr ⟨_, hI, hno.out, rfl⟩, hB⟩
set_option maxRecDepth 100000 in
set_option maxHeartbeats 1000000 in
theorem back0 (s : ByteArray) (w : World) (hs : s.size ≤ 21) (h0 : 0 < s.size) (hm : s[0] ≠ 45) :
    Calls Tryz.prog 100 #[.string s] w fun e w' => BackRes s.data.toList e ∧ Below w.heap.size w w' := by
  have h0' : ((s[0].toNat : Int) == 45) = false := by
    rw [beq_eq_false_iff_ne]
    intro h
    exact hm (UInt8.toNat_inj.1 (by have : s[0].toNat = 45 := by omega
                                    rw [this]; rfl))
  have hF := hid (show fr s.data.toList = 0 by
    have h := sz_get s 0 h0 (by rw [← size_list]; exact h0)
    unfold fr
    cases hc : s.data.toList with
    | nil => rfl
    | cons c r =>
      simp [hc] at h
      simp only
      rw [if_neg]
      intro h2
      exact hm (by rw [h, h2]))
  clear hm
  have Hl := hid (size_list s)
  go_enter Tryz.func100, Tryz.ntmps100
  go_wp2_with fail
  go_loop [5, 6] (fun n i => ∃ (k : Nat) (z : Int), 0 ≤ k ∧ k ≤ s.size ∧ i = .int .i64 k ∧ n = .int .i64 z ∧ Bk s.data.toList k z) (fun _ i => s.size - (intOf i).toNat)
  case atStart => exact ⟨0, 0, by omega, by omega, rfl, rfl, by have := Bk.zero s.data.toList; rw [hF.out] at this; exact this⟩
  case round =>
    obtain ⟨k, z, hk1, hk2, rfl, rfl, hbk⟩ := hrel
    by_cases hlt : k < s.size
    · have hz := hbk.i.bd
      have hk20 : (k : Int) ≤ 20 := by omega
      have hkl : k < s.data.toList.length := by rw [← Hl.out]; exact hlt
      have hst := hid (hbk.step (by rw [hF.out]; exact hk1) hkl)
      have hbd := hid (Bk.bad (l := s.data.toList) (k := k) (by rw [hF.out]; exact hk1) hkl)
      rw [← sz_get s k hlt hkl] at hst hbd
      by_cases h1 : 48 ≤ (s[k].toNat : Int)
      · by_cases h2 : (s[k].toNat : Int) ≤ 57
        · have hst2 := hid (hst.out (by omega) (by omega))
          clear hst hbd hbk
          go_wp2_with fail
          go_round
          case rel => exact ⟨k + 1, _, by omega, by omega, by go_num, rfl, hst2.out⟩
          case measure => simp [intOf]; omega
        · have hb2 := hid (hbd.out (by omega))
          clear hst hbd hbk
          go_wp2_with fail
          go_ret2
          exact ⟨.inr ⟨0, by simp [I64], hb2.out, rfl⟩, Below.refl _ _⟩
      · have hb2 := hid (hbd.out (by omega))
        clear hst hbd hbk
        go_wp2_with fail
        go_ret2
        exact ⟨.inr ⟨0, by simp [I64], hb2.out, rfl⟩, Below.refl _ _⟩
    · obtain rfl : k = s.size := by omega
      rw [Hl.out] at hbk
      have hz := hbk.i.bd
      have hv := hid (fun m hm he => hbk.val (m := m) hm he)
      clear hbk
      have hI : I64 (wrap64 (-z)) := wrap64_bd _
      by_cases hit : Lib.itoa (wrap64 (-z)) = s.data.toList
      · have Hit := hid hit
        have hc : ((bs (encI (wrap64 (-z)))).toList == (s ++ ⟨#[59]⟩).toList) = true := by
          rw [show s ++ ⟨#[59]⟩ = bs (s.data.toList ++ [59]) by rw [← bs_app, bs_of]; rfl, bs_list, bs_list, encI, hit]; simp
        clear hit
        go_wp2_with fail
        refine (rInt_any _ hI _).mono ?_
        rintro e w1 ⟨rfl, hB⟩
        go_wp2_with fail
        go_ret2
        exact ⟨.inl ⟨_, hI, Hit.out, rfl⟩, hB⟩
      · have hno := hid (show ∀ m, I64 m → Lib.itoa m ≠ s.data.toList by
          intro m hm he
          have := (hv.out m hm he).2 hF.out
          rw [← this] at he
          exact hit he)
        have hc : ((bs (encI (wrap64 (-z)))).toList == (s ++ ⟨#[59]⟩).toList) = false := by
          rw [show s ++ ⟨#[59]⟩ = bs (s.data.toList ++ [59]) by rw [← bs_app, bs_of]; rfl, bs_list, bs_list, encI]
          simp only [beq_eq_false_iff_ne]
          intro h
          exact hit (List.append_cancel_right h)
        clear hit
        go_wp2_with fail
        refine (rInt_any _ hI _).mono ?_
        rintro e w1 ⟨rfl, hB⟩
        go_wp2_with fail
        go_ret2
        exact ⟨.inr ⟨_, hI, hno.out, rfl⟩, hB⟩
set_option maxRecDepth 100000 in
set_option maxHeartbeats 1000000 in
theorem backE (s : ByteArray) (w : World) (hs : s = ⟨#[]⟩) :
    Calls Tryz.prog 100 #[.string s] w fun e w' => BackRes s.data.toList e ∧ Below w.heap.size w w' := by
  subst hs
  go_enter Tryz.func100, Tryz.ntmps100
  go_wp2_with fail
  go_loop [5, 6] (fun n i => n = .int .i64 0 ∧ i = .int .i64 0) (fun _ i => 0)
  case atStart => exact ⟨rfl, rfl⟩
  case round =>
    obtain ⟨rfl, rfl⟩ := hrel
    go_wp2_with fail
    refine (rInt_any 0 (by simp [I64]) _).mono ?_
    rintro e w1 ⟨rfl, hB⟩
    have hc : ((bs (encI 0)).toList == (⟨#[]⟩ ++ ⟨#[59]⟩ : ByteArray).toList) = false := by
      rw [show (⟨#[]⟩ ++ ⟨#[59]⟩ : ByteArray) = bs [59] by rfl, bs_list, bs_list]
      simp [encI, Lib.itoa, Lib.decDigits]
    have hc2 : ((bs (encI 0)).toList == (⟨#[59]⟩ : ByteArray).toList) = false := by
      rw [show (⟨#[59]⟩ : ByteArray) = bs [59] by rfl, bs_list, bs_list]
      simp [encI, Lib.itoa, Lib.decDigits]
    go_wp2_with fail
    go_ret2
    refine ⟨.inr ⟨0, by simp [I64], fun m _ he => ?_, rfl⟩, hB⟩
    have := dec_ne m.natAbs
    rw [← (itoa_fr he).1] at this
    simp at this
theorem backR_any (s : ByteArray) (w : World) (hs : s.size ≤ 21) : Calls Tryz.prog 100 #[.string s] w fun e w' => BackRes s.data.toList e ∧ Below w.heap.size w w' := by
  by_cases h0 : 0 < s.size
  · by_cases hm : s[0] = 45
    · exact back1 s w hs h0 hm
    · exact back0 s w hs h0 hm
  · exact backE s w (by
      have h1 : s.data.toList.length = 0 := by rw [← size_list]; omega
      have h2 : s.data.toList = [] := List.eq_nil_of_length_eq_zero h1
      rw [← bs_of s, h2]; rfl)
end Go.Proofs.YteljfpcmpdpehaaGreatDoor
