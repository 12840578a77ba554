
/- Petri: the comparison of words: bits.OnesCount64, cmp.Compare, cmp.Or, slices.Compare. -/
import Derived.Test.YtbbogflibekgfaaDoorPetSq
import Derived.Test.YtbbogflibekgfaaDoorPetSh
set_option linter.unusedSimpArgs false
set_option linter.unusedVariables false
namespace Go.Proofs.YtbbogflibekgfaaDoor
open Go.RowKit Go.IntWalk Go.Shelf

theorem shrC (x k : Nat) : ((x : Int) / (2 ^ k : Nat)) = ((x >>> k : Nat) : Int) := by
  rw [Nat.shiftRight_eq_div_pow]; simp
theorem andC (x c : Nat) (hx : x < 18446744073709551616) (hc : c < 18446744073709551616) : bits .and .u64 (x : Int) (c : Int) = ((x &&& c : Nat) : Int) := bits_and_u64_nat x c hx hc
theorem wrapC (x : Nat) (hx : x < 18446744073709551616) : IntKind.u64.wrap (x : Int) = x := by rw [IntKind.wrap_u64]; omega
set_option maxRecDepth 100000 in
set_option maxHeartbeats 1000000 in
theorem ones_any (x : Nat) (hx : x < 16384) (w : World) :
    Calls Tryd.prog 32 #[.int .u64 (x : Nat)] w fun e w' => e = .returned (.int .i64 (listN x).length) ∧ w' = w := by
  have hR := popR x hx
  have hn := hid hR.n
  have shr := fun (a k : Nat) (h : a < 18446744073709551616) => show a >>> k < 18446744073709551616 from Nat.lt_of_le_of_lt (by rw [Nat.shiftRight_eq_div_pow]; exact Nat.div_le_self _ _) h
  obtain ⟨ha, hb, hs, hc, hd, he, hf, -⟩ := hR
  have e1 := hid (show IntKind.u64.wrap (bits BinOp.and IntKind.u64 ((x : Int) / 2) 6148914691236517205 + bits BinOp.and IntKind.u64 (x : Int) 6148914691236517205) = ((pop1 x : Nat) : Int) by
    have h1 := shrC x 1
    have h2 := andC (x >>> 1) 6148914691236517205 (shr x 1 (by omega)) (by omega)
    have h3 := andC x 6148914691236517205 (by omega) (by omega)
    rw [← h1] at h2
    refine Eq.trans (congrArg _ (congr (congrArg _ h2) h3)) ?_
    rw [← Int.natCast_add]
    exact wrapC _ (by unfold pop1 at ha; omega))
  have hX : (listN x).length = pop6 (pop5 (pop4 (pop3 (pop2 (pop1 x))))) &&& 127 := hn.out.symm
  clear hn
  generalize (listN x).length = N at *
  have hN := hid hX
  clear hX
  go_enter Tryd.func32, Tryd.ntmps32
  go_upto_region 2 with fail
  rw [e1.out]
  clear e1
  have hz1 : pop1 x < 18446744073709551616 := by omega
  generalize pop1 x = a at *
  have e2 := hid (show IntKind.u64.wrap (bits BinOp.and IntKind.u64 ((a : Int) / 4) 3689348814741910323 + bits BinOp.and IntKind.u64 (a : Int) 3689348814741910323) = ((pop2 a : Nat) : Int) by
    have h1 := shrC a 2
    have h2 := andC (a >>> 2) 3689348814741910323 (shr a 2 (by omega)) (by omega)
    have h3 := andC a 3689348814741910323 (by omega) (by omega)
    rw [← h1] at h2
    refine Eq.trans (congrArg _ (congr (congrArg _ h2) h3)) ?_
    rw [← Int.natCast_add]
    exact wrapC _ (by unfold pop2 at hb; omega))
  go_upto_region 3 with fail
  rw [e2.out]
  clear e2 hx ha
  have hz2 : pop2 a < 18446744073709551616 := by omega
  generalize pop2 a = b at *
  have e3 := hid (show bits BinOp.and IntKind.u64 ((b : Int) / 16 + b) 1085102592571150095 = ((pop3 b : Nat) : Int) by
    have h1 := shrC b 4
    rw [show ((2 ^ 4 : Nat) : Int) = 16 from rfl] at h1
    rw [h1, ← Int.natCast_add]
    exact andC _ 1085102592571150095 (by omega) (by omega))
  go_upto_region 4 with fail
  rw [e3.out]
  clear e3 hb hs
  have hz3 : pop3 b < 18446744073709551616 := by omega
  generalize pop3 b = c at *
  have e4 := hid (show (c : Int) + (c : Int) / 256 = ((pop4 c : Nat) : Int) by
    have h1 := shrC c 8
    rw [show ((2 ^ 8 : Nat) : Int) = 256 from rfl] at h1
    rw [h1, ← Int.natCast_add]
    rfl)
  go_upto_region 5 with fail
  rw [e4.out]
  clear e4 hc
  have hz4 : pop4 c < 18446744073709551616 := by omega
  generalize pop4 c = d at *
  have e5 := hid (show (d : Int) + (d : Int) / 65536 = ((pop5 d : Nat) : Int) by
    have h1 := shrC d 16
    rw [show ((2 ^ 16 : Nat) : Int) = 65536 from rfl] at h1
    rw [h1, ← Int.natCast_add]
    rfl)
  go_upto_region 6 with fail
  rw [e5.out]
  clear e5 hd
  have hz5 : pop5 d < 18446744073709551616 := by omega
  generalize pop5 d = e9 at *
  have e6 := hid (show (e9 : Int) + (e9 : Int) / 4294967296 = ((pop6 e9 : Nat) : Int) by
    have h1 := shrC e9 32
    rw [show ((2 ^ 32 : Nat) : Int) = 4294967296 from rfl] at h1
    rw [h1, ← Int.natCast_add]
    rfl)
  go_upto_region 7 with fail
  rw [e6.out]
  clear e6 he
  generalize pop6 e9 = f at *
  have hf2 : (f : Int) ≤ 4611686018427387904 := by omega
  have hand := i64_and_nat f 127 (by omega) (by omega)
  have hand2 := hid hand
  clear hand
  go_wp2_with fail
  go_ret
  exact ⟨ret_int (by rw [hN.out]; exact hand2.out), rfl⟩
/-! ### Comparisons: what is made is new, and the tape moves forward -/
def Fwd (w w' : World) : Prop := Below w.heap.size w w' ∧ w.drawn ≤ w'.drawn
theorem Fwd.refl (w : World) : Fwd w w := ⟨Below.refl _ _, Nat.le_refl _⟩
theorem Fwd.trans {a b c : World} (h : Fwd a b) (k : Fwd b c) : Fwd a c := ⟨h.1.trans (k.1.mono h.1.size), Nat.le_trans h.2 k.2⟩
theorem Fwd.alloc {a b : World} (h : Fwd a b) (o : Obj) : Fwd a (b.alloc o) := ⟨h.1.alloc h.1.size o, h.2⟩
theorem Fwd.drew {a b : World} (h : Fwd a b) : Fwd a b.drew := ⟨h.1.drew, Nat.le_succ_of_le h.2⟩
open Go.Sort in
theorem Fwd.grow {w w' : World} (h : Fwd w w') : ∃ q os', w' = grow (w.drewN q) os' := by
  obtain ⟨⟨h1, h2, h3, h4, h5⟩, h6⟩ := h
  refine ⟨w'.drawn - w.drawn, w'.heap.extract w.heap.size w'.heap.size, ?_⟩
  obtain ⟨hp, tp, dr, o, out⟩ := w'
  simp only at *
  subst h1 h2 h3
  unfold Go.Sort.grow World.drewN
  congr 1
  · refine Array.ext_getElem? fun k => ?_
    rcases Nat.lt_or_ge k w.heap.size with hk | hk
    · rw [Array.getElem?_append_left hk, h5 k hk]
    · rw [Array.getElem?_append_right hk, Array.getElem?_extract]
      split
      · rw [show w.heap.size + (k - w.heap.size) = k by omega]
      · rename_i hn
        refine Array.getElem?_eq_none ?_
        simp only [Nat.min_self] at hn
        omega
  · show dr = w.drawn + (dr - w.drawn)
    omega
theorem isNaN_any (x : Int) (w : World) : Calls Tryd.prog 50 #[.int .i64 x] w fun e w' => e = .returned (.bool false) ∧ w' = w := by
  go_enter Tryd.func50, Tryd.ntmps50
  go_wp2_with fail
  go_ret
  exact ⟨rfl, rfl⟩
theorem compare_any (x y : Int) (w : World) : Calls Tryd.prog 31 #[.int .i64 x, .int .i64 y] w fun e w' => e = .returned (.int .i64 (cmpI x y)) ∧ w' = w := by
  have HN := hid isNaN_any
  go_enter Tryd.func31, Tryd.ntmps31
  go_wp2_with fail
  refine (HN.out _ _).mono ?_
  rintro e w2 ⟨rfl, rfl⟩
  go_wp2_with fail
  refine (HN.out _ _).mono ?_
  rintro e w3 ⟨rfl, rfl⟩
  by_cases h1 : x < y
  · have hc := hid (show cmpI x y = -1 by simp [cmpI, h1])
    as_aux_lemma =>
      go_wp2_with fail
      go_ret
      exact ⟨ret_int hc.out.symm, rfl⟩
  · by_cases h2 : y < x
    · have hc := hid (show cmpI x y = 1 by simp [cmpI, h1, h2])
      as_aux_lemma =>
        go_wp2_with fail
        go_ret
        exact ⟨ret_int hc.out.symm, rfl⟩
    · have hc := hid (show cmpI x y = 0 by simp [cmpI, h1, h2])
      as_aux_lemma =>
        go_wp2_with fail
        go_ret
        exact ⟨ret_int hc.out.symm, rfl⟩
set_option maxRecDepth 100000 in
set_option maxHeartbeats 1000000 in
/-- cmp.Or of two numbers. -/
theorem or_any (g c : Nat) (x y : Int) (w : World) (hx : Blk w g 3 #[.int .i64 x, .int .i64 y]) :
    Calls Tryd.prog 30 #[.slice (some ⟨g, 0, none⟩) 2 c] w fun e w' => e = .returned (.int .i64 (if x = 0 then y else x)) ∧ w' = w := by
  have y0 := hx.cell 0; have y1 := hx.cell 1; have z1 := hx.lt
  simp at y0 y1
  clear hx
  go_enter Tryd.func30, Tryd.ntmps30
  go_wp2_with fail
  go_loopw [8] (fun i wr => ∃ k : Nat, k ≤ 2 ∧ i = .int .i64 k ∧ wr = w ∧ (1 ≤ k → x = 0) ∧ (2 ≤ k → y = 0)) (fun i _ => 2 - (intOf i).toNat)
  case atStart => exact ⟨0, by omega, rfl, rfl, by omega, by omega⟩
  case round =>
    obtain ⟨k, hk, rfl, rfl, hx, hy⟩ := hrel
    have HX := hid hx
    have HY := hid hy
    clear hx hy
    match k, hk with
    | 0, _ =>
      by_cases hq : x = 0
      · have hQ := hid hq
        subst hq
        go_wp2_with fail
        go_roundw
        case rel => exact ⟨1, by omega, by go_num, by first | trivial | rfl, by simp, by omega⟩
        case measure => simp [intOf]
      · go_wp2_with fail
        go_ret
        exact ⟨ret_int (by first | rfl | simp [hq]), rfl⟩
    | 1, _ =>
      obtain rfl := HX.out (by omega)
      by_cases hq : y = 0
      · subst hq
        go_wp2_with fail
        go_roundw
        case rel => exact ⟨2, by omega, by go_num, by first | trivial | rfl, by simp, by simp⟩
        case measure => simp [intOf]
      · go_wp2_with fail
        go_ret
        exact ⟨ret_int (by first | rfl | simp), rfl⟩
    | 2, _ =>
      obtain rfl := HX.out (by omega)
      obtain rfl := HY.out (by omega)
      go_wp2_with fail
      go_ret
      exact ⟨ret_int (by first | rfl | simp), rfl⟩
/-- What remains to compare from the place k on. -/
theorem cmpL_drop {a b : List Int} {k : Nat} (ha : k < a.length) (hb : k < b.length) : cmpL (a.drop k) (b.drop k) = if cmpI a[k] b[k] = 0 then cmpL (a.drop (k + 1)) (b.drop (k + 1)) else cmpI a[k] b[k] := by
  rw [drop_cons a k ha, drop_cons b k hb]
  unfold cmpI
  simp only [cmpL]
  by_cases h1 : a[k] < b[k]
  · simp [h1]
  · by_cases h2 : b[k] < a[k] <;> simp [h1, h2]
set_option maxRecDepth 100000 in
set_option maxHeartbeats 1000000 in
theorem slcmp_any (A : Option Addr) (c : Nat) (a : List Int) (B : Option Addr) (d : Nat) (b : List Int) (w : World) (ha : a.length ≤ maxLen) (hb : b.length ≤ maxLen) (hA : SlR w w.heap.size A a) (hB : SlR w w.heap.size B b) :
    Calls Tryd.prog 33 #[.slice A a.length c, .slice B b.length d] w fun e w' => e = .returned (.int .i64 (cmpL a b)) ∧ w' = w := by
  unfold maxLen at ha hb
  have HC := hid compare_any
  have HD := hid (fun k => @cmpL_drop a b k)
  have HA := hid hA
  have HB := hid hB
  clear hA hB
  go_enter Tryd.func33, Tryd.ntmps33
  go_wp2_with fail
  go_loopw [11] (fun i wr => ∃ k : Nat, k ≤ a.length ∧ k ≤ b.length ∧ i = .int .i64 k ∧ wr = w ∧ cmpL a b = cmpL (a.drop k) (b.drop k)) (fun i _ => a.length - (intOf i).toNat)
  case atStart => exact ⟨0, by omega, by omega, rfl, rfl, by simp⟩
  case round =>
    obtain ⟨k, hk, hk2, rfl, rfl, he⟩ := hrel
    have HE := hid he
    clear he
    by_cases hlt : k < a.length
    · have hlt' : (k : Int) < a.length := by omega
      obtain ⟨ba, oa, rfl, hba, ca, -⟩ := HA.out.int hlt
      by_cases hlb : k < b.length
      · have hlb' : (k : Int) < b.length := by omega
        obtain ⟨bb, ob, rfl, hbb, cb, -⟩ := HB.out.int hlb
        have hD := hid (HD.out k hlt hlb)
        generalize a[k] = x at *
        generalize b[k] = y at *
        by_cases hq : cmpI x y = 0
        · have hcon := hid (HC.out x y)
          rw [hq] at hcon
          have hD2 := hid (show cmpL (a.drop k) (b.drop k) = cmpL (a.drop (k + 1)) (b.drop (k + 1)) by rw [hD.out, if_pos hq])
          clear hq hD
          go_wp2_with (go_at_call 31; refine (hcon.out _).mono ?_; rintro e w5 ⟨rfl, rfl⟩)
          go_roundw
          case rel => exact ⟨k + 1, by omega, by omega, by go_num, by first | trivial | rfl, by rw [HE.out, hD2.out]⟩
          case measure => simp [intOf]; omega
        · have hcon := hid (HC.out x y)
          have hD2 := hid (show cmpL (a.drop k) (b.drop k) = cmpI x y by rw [hD.out, if_neg hq])
          clear hD
          generalize cmpI x y = r at *
          go_wp2_with (go_at_call 31; refine (hcon.out _).mono ?_; rintro e w5 ⟨rfl, rfl⟩)
          go_ret
          exact ⟨ret_int (by rw [HE.out, hD2.out]), rfl⟩
      · have hlb' : (b.length : Int) ≤ k := by omega
        have hD2 := hid (show cmpL (a.drop k) (b.drop k) = 1 by rw [drop_cons a k hlt, List.drop_of_length_le (l := b) (by omega)]; rfl)
        go_wp2_with fail
        go_ret
        exact ⟨ret_int (by rw [HE.out, hD2.out]), rfl⟩
    · obtain rfl : k = a.length := by omega
      by_cases hlb : a.length < b.length
      · have hlb' : (a.length : Int) < b.length := by omega
        have hD2 := hid (show cmpL (a.drop a.length) (b.drop a.length) = -1 by rw [drop_cons b _ hlb, List.drop_of_length_le (l := a) (Nat.le_refl _)]; rfl)
        go_wp2_with fail
        go_ret
        exact ⟨ret_int (by rw [HE.out, hD2.out]), rfl⟩
      · have hlb' : ¬ (a.length : Int) < b.length := by omega
        have hD2 := hid (show cmpL (a.drop a.length) (b.drop a.length) = 0 by rw [List.drop_of_length_le (l := a) (Nat.le_refl _), List.drop_of_length_le (l := b) (by omega)]; rfl)
        go_wp2_with fail
        go_ret
        exact ⟨ret_int (by rw [HE.out, hD2.out]), rfl⟩/-! ### The closure -/
set_option maxRecDepth 100000 in
set_option maxHeartbeats 2000000 in
theorem sipcmp_any (x y : Wd) (w : World) (hE : Env w) :
    Calls Tryd.prog 29 #[.int .u64 (x.1 : Nat), .int .u64 (y.1 : Nat)] w fun e w' => e = .returned (.int .i64 (cfW x y)) ∧ Fwd w w' := by
  obtain ⟨x, hx⟩ := x
  obtain ⟨y, hy⟩ := y
  have HO1 := hid (ones_any x hx)
  have HO2 := hid (ones_any y hy)
  have HC := hid compare_any
  have HL1 := hid (fun W (hE : Env W) => list_any x W (by omega) hE)
  have HL2 := hid (fun W (hE : Env W) => list_any y W (by omega) hE)
  have hL1 := hid (listN_len x)
  have hL2 := hid (listN_len y)
  have hI1 := hid (listN_i64 x)
  have hI2 := hid (listN_i64 y)
  have hK := hid (cmpK_or x y)
  have hR := hid (show cfW ⟨x, hx⟩ ⟨y, hy⟩ = cmpK x y from rfl)
  rw [hR.out]
  clear hR
  have HE := hid hE
  clear hE
  generalize cmpK x y = R at *
  generalize listN x = lx at *
  generalize listN y = ly at *
  go_enter Tryd.func29, Tryd.ntmps29
  go_wp2_with fail
  refine (HO1.out _).mono ?_
  rintro e w1 ⟨rfl, rfl⟩
  go_wp2_with fail
  refine (HO2.out _).mono ?_
  rintro e w2 ⟨rfl, rfl⟩
  go_wp2_with fail
  refine (HC.out _ _ _).mono ?_
  rintro e w3 ⟨rfl, rfl⟩
  go_wp2_with fail
  refine (HL1.out _ HE.out).mono ?_
  rintro e w4 ⟨A1, c1, rfl, hO1, hB1, hd1⟩
  have F4 := hid (show Fwd w3 w4 from ⟨hB1, hd1⟩)
  have O4 := hid hO1
  clear hO1 hB1 hd1
  go_wp2_with fail
  refine (HL2.out _ (HE.out.below F4.out.1 HE.out.pos)).mono ?_
  rintro e w5 ⟨A2, c2, rfl, hO2, hB2, hd2⟩
  have F5 := hid (show Fwd w4 w5 from ⟨hB2, hd2⟩)
  have O5 := hid (O4.out.below hB2)
  have O6 := hid hO2
  clear hO2 hB2 hd2
  have HS := hid (show Calls Tryd.prog 33 #[.slice A1 lx.length c1, .slice A2 ly.length c2] w5 fun e w' => e = .returned (.int .i64 (cmpL lx ly)) ∧ w' = w5 from by
    obtain ⟨A8, c8, e8, _, _, s1⟩ := O5.out.slr hI1.out
    obtain ⟨A9, c9, e9, _, _, s2⟩ := O6.out.slr hI2.out
    cases e8
    cases e9
    exact slcmp_any _ _ lx _ _ ly w5 (by have := hL1.out; unfold maxLen; omega) (by have := hL2.out; unfold maxLen; omega) s1 s2)
  clear O4 O5 O6 HL1 HL2
  generalize cmpL lx ly = R2 at *
  generalize cmpI lx.length ly.length = R1 at *
  go_wp2_with fail
  refine HS.out.mono ?_
  rintro e w6 ⟨rfl, rfl⟩
  go_wp2_with fail
  refine (or_any _ _ R1 R2 _ (Blk.new _ _ _)).mono ?_
  rw [← hK.out]
  rintro e w7 ⟨rfl, rfl⟩
  go_wp2_with fail
  go_ret
  exact ⟨rfl, (F4.out.trans F5.out).alloc _⟩
end Go.Proofs.YtbbogflibekgfaaDoor
