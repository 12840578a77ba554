
/- Lease: the reference's Sure, Wishes, Bytes. -/
import Derived.Test.YtappgjdnfllblaaDoorLrC
set_option linter.unusedSimpArgs false
set_option linter.unusedVariables false
namespace Go.Proofs.YtappgjdnfllblaaDoor
open Go.RowKit Go.IntWalk Go.Maps Go.WideMaps
section
variable {w w' : World} {base b : Nat} {v : Value} {d : LDk}
theorem zoneOf_h' {d : LDk} (ok : d.Ok) {k : Nat} (hp : d.gp k = false) : zoneOf d k = (d.home.getD k 0, (d.hs k).1, (d.hs k).2.1, (d.hs k).2.2, 0, 0, 0) := by
  have e3 : d.gs k = (0, 0, 0, 0) := ok.gg k hp
  unfold zoneOf lEnds
  rw [e3]
  simp
theorem zoneOf_g' {d : LDk} (ok : d.Ok) {k : Nat} (hp : d.hp k = false) : zoneOf d k = (d.home.getD k 0, (d.gs k).1, 0, false, (d.gs k).2.1, (d.gs k).2.2.1, (d.gs k).2.2.2) := by
  have e2 : d.hs k = (0, 0, false) := ok.hh k hp
  unfold zoneOf lEnds
  rw [e2]
  simp
theorem zoneOf_I {d : LDk} (ok : d.Ok) (k : Nat) : znI (zoneOf d k) := by
  obtain ⟨⟨a1, a2⟩, a3, a4⟩ := ok.hb k
  obtain ⟨⟨b1, b2⟩, ⟨b3, b4⟩, ⟨b5, b6⟩, b7, b8⟩ := ok.gb k
  refine ⟨?_, ?_, ?_, ?_, ?_, ?_⟩
  · show I64 (d.home.getD k 0)
    by_cases hk : k < d.home.length
    · have e : d.home.getD k 0 = d.home[k] := by simp [List.getD, List.getElem?_eq_getElem hk]
      rw [e]
      rcases ok.hm _ (List.getElem_mem hk) with e2 | e2 <;> rw [e2] <;> simp [I64]
    · have e : d.home.getD k 0 = 0 := by simp [List.getD, List.getElem?_eq_none (Nat.le_of_not_lt hk)]
      rw [e]; simp [I64]
  · show I64 (lEnds d k)
    unfold lEnds
    constructor <;> omega
  · show I64 (d.hs k).2.1
    constructor <;> omega
  · show I64 (d.gs k).2.1
    constructor <;> omega
  · show I64 (d.gs k).2.2.1
    constructor <;> omega
  · show I64 (d.gs k).2.2.2
    constructor <;> omega
set_option maxRecDepth 100000 in
set_option maxHeartbeats 2000000 in
theorem rsure_any (h : RLd w base b v d) (ok : d.Ok) {now : Int} (hn : -4398046511104 ≤ now ∧ now ≤ 4398046511104) : Calls Tryd.prog 35 #[.pointer (some ⟨b, 0, none⟩), .int .i64 now] w fun e w' => ∃ A c, e = .returned (.slice A (upToP (fun z => lHolds d z now) d.home.length).length c) ∧ OwnI w' w.heap.size (.slice A (upToP (fun z => lHolds d z now) d.home.length).length c) (upToP (fun z => lHolds d z now) d.home.length) ∧ Below w.heap.size w w' := by
  obtain ⟨A0, c0, rfl⟩ := h.form
  have HH := hid (fun W (hW : Below w.heap.size w W) (k : Nat) (hk : k < d.home.length) => rholds_any (h.below hW) ok (z := (k : Int)) (now := now) hn)
  have HA := hid (fun W (hW : Below w.heap.size w W) => (h.below hW).at_)
  have hlen := ok.len
  have HS := hid (fun k => show upToP (fun z => lHolds d z now) (k + 1) = upToP (fun z => lHolds d z now) k ++ (if lHolds d (k : Nat) now then [((k : Nat) : Int)] else []) from rfl)
  have HLe := hid (upToP_le (fun z => lHolds d z now))
  have H0 := hid (show upToP (fun z => lHolds d z now) 0 = [] from rfl)
  generalize upToP (fun z => lHolds d z now) = F at *
  obtain ⟨d0, d1⟩ := h.at_
  generalize hN : d.home.length = N at *
  clear h ok hN hn
  go_enter Tryd.func35, Tryd.ntmps35
  go_wp2_with fail
  clear d0 d1
  go_loopw [6, 5] (fun x s wr => ∃ (k : Nat) (A : Option Addr) (c : Nat), x = .int .i64 (k : Nat) ∧ k ≤ N ∧ s = .slice A (F k).length c ∧ OwnI wr w.heap.size (.slice A (F k).length c) (F k) ∧ Below w.heap.size w wr) (fun x _ _ => N - (intOf x).toNat)
  case atStart => exact ⟨0, none, 0, rfl, Nat.zero_le _, by rw [H0.out]; rfl, by rw [H0.out]; exact OwnI.nil _ _, Below.refl _ _⟩
  case round =>
    obtain ⟨k, A, c, rfl, hk, rfl, ho, hB⟩ := hrel
    have HB := hid hB
    have HO := hid ho
    have hF := HLe.out k
    clear hB ho
    obtain ⟨d0, d1⟩ := HA.out wr HB.out
    by_cases hkn : k < N
    · have hk1 : wrap64 ((k : Int) + 1) = ((k + 1 : Nat) : Int) := by rw [wrap64_in _ (by omega)]; simp
      have HC := hid (HH.out wr HB.out k hkn)
      have HSk := hid (HS.out k)
      have hsz := hid HB.out.size
      cases hL : lHolds d (k : Nat) now with
      | false =>
        rw [hL] at HC HSk
        have HE := hid (show F (k + 1) = F k by rw [HSk.out]; simp)
        clear hL HSk
        skip
        go_wp2_with (go_at_call 30; refine HC.out.mono ?_; rintro e w5 ⟨rfl, hB5⟩)
        have B5 := hid (HB.out.trans (hB5.mono HB.out.size))
        have O5 := hid (HO.out.below hB5)
        clear hB5
        go_roundw
        case rel => exact ⟨k + 1, A, c, by simp [hk1], hkn, by rw [HE.out], by rw [HE.out]; exact O5.out, B5.out⟩
        case measure => simp [intOf, hk1]; omega
      | true =>
        rw [hL] at HC HSk
        have HE := hid (show F (k + 1) = F k ++ [(k : Int)] by rw [HSk.out]; simp)
        clear hL HSk
        skip
        go_upto_region 6 with (go_at_call 30; refine HC.out.mono ?_; rintro e w5 ⟨rfl, hB5⟩)
        have B5 := hid (HB.out.trans (hB5.mono HB.out.size))
        have O5 := hid (HO.out.below hB5)
        clear hB5
        have s5 := hid B5.out.size
        clear HB HO HC hsz d0 d1
        
        go_wp2_with (at_builtin; go_loud (refine wp_appI _ rfl (.tmp 20) (.tmp 22) rfl w.heap.size _ _ rfl (O5.out.alloc _) _ _ [(k : Int)] rfl (cell1_newL _ _) (by simp; omega) (by have := s5.out; simp; omega) ?_; intro v1 w6 ho1 hg6 hat1))
        have B6 := hid (show Below w.heap.size w w6 from (B5.out.alloc B5.out.size _).grown hg6 (by have := s5.out; simp; omega) (fun g hg => (O5.out.lt g hg).1))
        rw [← HE.out] at ho1
        obtain ⟨A6, c6, rfl, -⟩ := ho1.form
        go_roundw
        case rel => exact ⟨k + 1, A6, c6, by simp [hk1], hkn, rfl, ho1, B6.out⟩
        case measure => simp [intOf, hk1]; omega
    · have hkN : k = N := by omega
      subst hkN
      go_wp2_with fail
      go_ret
      exact ⟨A, c, rfl, HO.out, HB.out⟩
set_option maxRecDepth 100000 in
set_option maxHeartbeats 2000000 in
theorem rwishes_any (h : RLd w base b v d) (ok : d.Ok) : Calls Tryd.prog 37 #[.pointer (some ⟨b, 0, none⟩)] w fun e w' => ∃ A c, e = .returned (.slice A (upToP (fun z => (d.hs z).2.2) d.home.length).length c) ∧ OwnI w' w.heap.size (.slice A (upToP (fun z => (d.hs z).2.2) d.home.length).length c) (upToP (fun z => (d.hs z).2.2) d.home.length) ∧ Below w.heap.size w w' := by
  obtain ⟨A0, c0, rfl⟩ := h.form
  have HH := hid (fun W (hW : Below w.heap.size w W) (k : Nat) (hk : k < d.home.length) => show ∃ g, A0 = some ⟨g, 0, none⟩ ∧ W.cell? ⟨g, k * 7 + 3, none⟩ = some (.bool (d.hs (k : Nat)).2.2) from by obtain ⟨g, hg, -, -, -, -, -, -, -, z3, -⟩ := (h.below hW).zone hk; exact ⟨g, hg, z3⟩)
  have HA := hid (fun W (hW : Below w.heap.size w W) => (h.below hW).at_)
  have hlen := ok.len
  have HS := hid (fun k => show upToP (fun z => (d.hs z).2.2) (k + 1) = upToP (fun z => (d.hs z).2.2) k ++ (if (d.hs (k : Nat)).2.2 then [((k : Nat) : Int)] else []) from rfl)
  have HLe := hid (upToP_le (fun z => (d.hs z).2.2))
  have H0 := hid (show upToP (fun z => (d.hs z).2.2) 0 = [] from rfl)
  generalize upToP (fun z => (d.hs z).2.2) = F at *
  obtain ⟨d0, d1⟩ := h.at_
  generalize hN : d.home.length = N at *
  clear h ok hN
  go_enter Tryd.func37, Tryd.ntmps37
  go_wp2_with fail
  clear d0 d1
  go_loopw [4, 3] (fun x s wr => ∃ (k : Nat) (A : Option Addr) (c : Nat), x = .int .i64 (k : Nat) ∧ k ≤ N ∧ s = .slice A (F k).length c ∧ OwnI wr w.heap.size (.slice A (F k).length c) (F k) ∧ Below w.heap.size w wr) (fun x _ _ => N - (intOf x).toNat)
  case atStart => exact ⟨0, none, 0, rfl, Nat.zero_le _, by rw [H0.out]; rfl, by rw [H0.out]; exact OwnI.nil _ _, Below.refl _ _⟩
  case round =>
    obtain ⟨k, A, c, rfl, hk, rfl, ho, hB⟩ := hrel
    have HB := hid hB
    have HO := hid ho
    have hF := HLe.out k
    clear hB ho
    obtain ⟨d0, d1⟩ := HA.out wr HB.out
    by_cases hkn : k < N
    · have hk1 : wrap64 ((k : Int) + 1) = ((k + 1 : Nat) : Int) := by rw [wrap64_in _ (by omega)]; simp
      have HC := hid (HH.out wr HB.out k hkn)
      have HSk := hid (HS.out k)
      have hsz := hid HB.out.size
      cases hL : (d.hs (k : Nat)).2.2 with
      | false =>
        rw [hL] at HC HSk
        have HE := hid (show F (k + 1) = F k by rw [HSk.out]; simp)
        clear hL HSk
        obtain ⟨gz, rfl, z3⟩ := HC.out
        go_wp2_with fail
        have B5 := hid HB.out
        have O5 := hid HO.out
        go_roundw
        case rel => exact ⟨k + 1, A, c, by simp [hk1], hkn, by rw [HE.out], by rw [HE.out]; exact O5.out, B5.out⟩
        case measure => simp [intOf, hk1]; omega
      | true =>
        rw [hL] at HC HSk
        have HE := hid (show F (k + 1) = F k ++ [(k : Int)] by rw [HSk.out]; simp)
        clear hL HSk
        obtain ⟨gz, rfl, z3⟩ := HC.out
        go_upto_region 6 with fail
        have B5 := hid HB.out
        have O5 := hid HO.out
        have s5 := hid B5.out.size
        clear HB HO HC hsz d0 d1
        clear z3
        go_wp2_with (at_builtin; go_loud (refine wp_appI _ rfl (.tmp 22) (.tmp 24) rfl w.heap.size _ _ rfl (O5.out.alloc _) _ _ [(k : Int)] rfl (cell1_newL _ _) (by simp; omega) (by have := s5.out; simp; omega) ?_; intro v1 w6 ho1 hg6 hat1))
        have B6 := hid (show Below w.heap.size w w6 from (B5.out.alloc B5.out.size _).grown hg6 (by have := s5.out; simp; omega) (fun g hg => (O5.out.lt g hg).1))
        rw [← HE.out] at ho1
        obtain ⟨A6, c6, rfl, -⟩ := ho1.form
        go_roundw
        case rel => exact ⟨k + 1, A6, c6, by simp [hk1], hkn, rfl, ho1, B6.out⟩
        case measure => simp [intOf, hk1]; omega
    · have hkN : k = N := by omega
      subst hkN
      go_wp2_with fail
      go_ret
      exact ⟨A, c, rfl, HO.out, HB.out⟩
set_option maxRecDepth 100000 in
set_option maxHeartbeats 8000000 in
theorem rbytes_any (h : RLd w base b v d) (ok : d.Ok) : Calls Tryd.prog 38 #[.pointer (some ⟨b, 0, none⟩)] w fun e w' => e = .returned (.string (bs (encDk d))) ∧ Below w.heap.size w w' := by
  obtain ⟨i1, i2⟩ := ok_I64 ok
  obtain ⟨A0, c0, rfl⟩ := h.form
  have hlen := ok.len
  have HI1 := hid i1; have HI2 := hid i2
  have HNs := hid (fun W (A : Option Addr) (c : Nat) (hS : SlR W W.heap.size A d.home) => rNums_any A c d.home W (by have := flat_bd encI 22 d.home (fun x hx => encI_le22 x (i2 x hx)); omega) (by omega) hS)
  have sz1 := hid (show (bs (encI d.me)).size ≤ 22 by rw [bs_size]; exact encI_le22 d.me i1)
  have sz2 := hid (show (bs (encL (d.home.map encI))).size ≤ 2000 by
    have := encDh_le ok
    unfold encDh at this
    rw [List.length_append] at this
    rw [bs_size]; omega)
  have hcat := hid (show bs (encI d.me) ++ bs (encL (d.home.map encI)) = bs (encDh d.me d.home) by rw [bs_app]; rfl)
  have HAt := hid (fun (wq : World) (hq : Below w.heap.size w wq) => (h.below hq).at_)
  have HZn := hid (fun (wq : World) (hq : Below w.heap.size w wq) (k : Nat) (hk : k < d.home.length) => (h.below hq).zone hk)
  have HEnd := hid (show encDk d = encDh d.me d.home ++ ((List.range d.home.length).map (encZ d)).flatten from rfl)
  have HSt := hid (fun k => show encDh d.me d.home ++ ((List.range (k + 1)).map (encZ d)).flatten = encDh d.me d.home ++ ((List.range k).map (encZ d)).flatten ++ ((numsL d k).map encI).flatten by rw [List.range_succ]; simp [encZ])
  have HLe := hid (fun k (hk : k ≤ d.home.length) => show (encDh d.me d.home ++ ((List.range k).map (encZ d)).flatten).length ≤ 8000 by
    have := encDh_le ok
    have := encZs_le ok k (by omega)
    rw [List.length_append]; omega)
  obtain ⟨F, hF⟩ : ∃ F : Nat → List UInt8, F = fun k => encDh d.me d.home ++ ((List.range k).map (encZ d)).flatten := ⟨_, rfl⟩
  have HEnd2 := hid (show encDk d = F d.home.length by rw [HEnd.out, hF])
  have HSt2 := hid (fun k => show F (k + 1) = F k ++ ((numsL d k).map encI).flatten by rw [hF]; exact HSt.out k)
  have HLe2 := hid (fun k (hk : k ≤ d.home.length) => show (F k).length ≤ 8000 by rw [hF]; exact HLe.out k hk)
  have H02 := hid (show bs (encI d.me) ++ bs (encL (d.home.map encI)) = bs (F 0) by rw [hcat.out, hF]; simp)
  have HNH := hid (fun (k : Nat) (hp : d.hp k = true) => show numsL d k = [(zoneOf d k).2.1, (zoneOf d k).2.2.1, if (zoneOf d k).2.2.2.1 then 1 else 0] by
    have hg : d.gp k = false := by
      cases hq : d.gp k with
      | false => rfl
      | true =>
        simp only [LDk.hp, LDk.gp, decide_eq_true_eq] at hp hq
        exact absurd hp.2.2 hq.2.2
    rw [zoneOf_h' ok hg]; unfold numsL; rw [hp]; simp)
  have HNG := hid (fun (k : Nat) (hp : d.hp k = false) => show numsL d k = [(zoneOf d k).2.1, (zoneOf d k).2.2.2.2.1, (zoneOf d k).2.2.2.2.2.1, (zoneOf d k).2.2.2.2.2.2] by
    rw [zoneOf_g' ok hp]; unfold numsL; rw [hp]; simp)
  have HZI := hid (fun (k : Nat) => zoneOf_I ok k)
  have HHP := hid (fun (k : Nat) (hk : k < d.home.length) => home_hp (d := d) hk)
  have HHG := hid (fun (k : Nat) (hk : k < d.home.length) => show (zoneOf d k).1 = d.home[k] by simp [zoneOf, List.getD, List.getElem?_eq_getElem hk])
  clear HEnd HSt HLe hF hcat ok i1 i2
  rw [HEnd2.out]
  obtain ⟨d0, d1⟩ := h.at_
  clear h
  go_enter Tryd.func38, Tryd.ntmps38
  go_wp2_with fail
  clear d0 d1
  go_loopw [4, 3] (fun x s wr => ∃ (k : Nat) (A : Option Addr) (c : Nat), x = .int .i64 (k : Nat) ∧ k ≤ d.home.length ∧ s = .slice A k c ∧ OwnI wr w.heap.size (.slice A k c) (d.home.take k) ∧ Below w.heap.size w wr) (fun x _ _ => d.home.length - (intOf x).toNat)
  case atStart => exact ⟨0, none, 0, rfl, Nat.zero_le _, rfl, OwnI.nil _ _, Below.refl _ _⟩
  case round =>
    obtain ⟨k, A, c, rfl, hk, rfl, ho, hB⟩ := hrel
    have HB := hid hB
    have HO := hid ho
    clear hB ho
    obtain ⟨d0, d1⟩ := HAt.out wr HB.out
    by_cases hkn : k < d.home.length
    · have hk1 : wrap64 ((k : Int) + 1) = ((k + 1 : Nat) : Int) := by rw [wrap64_in _ (by omega)]; simp
      obtain ⟨g, rfl, -, -, -, -, z0, -⟩ := HZn.out wr HB.out k hkn
      rw [HHG.out k hkn] at z0
      have hkn' : (k : Int) < d.home.length := by omega
      have HT := hid (show d.home.take (k + 1) = d.home.take k ++ [d.home[k]] from List.take_succ_eq_append_getElem hkn)
      have hlt := hid (show (d.home.take k).length = k by rw [List.length_take]; omega)
      generalize d.home[k] = hx at *
      have s5 := hid HB.out.size
      go_wp2_with (at_builtin; go_loud (refine wp_appI _ rfl (.tmp 18) (.tmp 27) rfl w.heap.size _ _ rfl (HO.out.alloc _) _ _ [hx] rfl (cell1_newL _ _) (by rw [hlt.out]; simp; omega) (by have := s5.out; simp; omega) ?_; intro v1 w6 ho1 hg6 hat1))
      have B6 := hid (show Below w.heap.size w w6 from (HB.out.alloc HB.out.size _).grown hg6 (by have := s5.out; simp; omega) (fun g hg => (HO.out.lt g hg).1))
      rw [← HT.out] at ho1
      obtain ⟨A6, c6, hv6, -⟩ := ho1.form
      rw [show (d.home.take (k + 1)).length = k + 1 by rw [List.length_take]; omega] at hv6
      subst hv6
      go_roundw
      case rel => exact ⟨k + 1, A6, c6, by simp [hk1], hkn, rfl, ho1, B6.out⟩
      case measure => simp [intOf, hk1]; omega
    · obtain rfl : k = d.home.length := by omega
      rw [List.take_length] at HO
      obtain ⟨A1, c1, e1, -, -, hS⟩ := HO.out.slr HI2.out
      injection e1 with e1 e2 e3
      subst e1 e3
      clear e2
      have HS := hid hS
      clear hS
      have HM := hid (rInt_any d.me HI1.out wr)
      have ad : ¬ (9223372036854775807 : Int) < ((bs (encI d.me)).size : Int) + ((bs (encL (d.home.map encI))).size : Int) := by have := sz1.out; have := sz2.out; omega
      have ad2 : ¬ 9223372036854775807 < (bs (encI d.me)).size + (bs (encL (d.home.map encI))).size := by have := sz1.out; have := sz2.out; omega
      go_wp2_with fail
      refine HM.out.mono ?_
      rintro e w3 ⟨rfl, hB⟩
      have B3 := hid (HB.out.trans (hB.mono HB.out.size))
      have HN := hid (HNs.out w3 A c ((HS.out.below hB).more hB.size))
      clear hB HM HB HO HS d0 d1
      go_wp2_with fail
      refine HN.out.mono ?_
      rintro e w4 ⟨rfl, hB⟩
      have B4 := hid (B3.out.trans (hB.mono B3.out.size))
      clear hB HN B3
      obtain ⟨d0, d1⟩ := HAt.out w4 B4.out
      go_upto_region 7 with fail
      rw [H02.out]
      go_wp2_with fail
      clear d0 d1
      go_loopw [6, 5] (fun x s wr => ∃ (k : Nat), x = .int .i64 (k : Nat) ∧ k ≤ d.home.length ∧ s = .string (bs (F k)) ∧ Below w.heap.size w wr) (fun x _ _ => d.home.length - (intOf x).toNat)
      case atStart => exact ⟨0, rfl, Nat.zero_le _, rfl, B4.out⟩
      case round =>
        clear B4
        obtain ⟨k, rfl, hk, rfl, hB⟩ := hrel
        have HB := hid hB
        clear hB
        obtain ⟨d0, d1⟩ := HAt.out wr HB.out
        by_cases hkn : k < d.home.length
        · have hk1 : wrap64 ((k : Int) + 1) = ((k + 1 : Nat) : Int) := by rw [wrap64_in _ (by omega)]; simp
          have hkn' : (k : Int) < d.home.length := by omega
          obtain ⟨g, rfl, -, -, -, -, z0, z1, z2, z3, z4, z5, z6, -⟩ := HZn.out wr HB.out k hkn
          have hSk := hid (HSt2.out k)
          have hLk := hid (HLe2.out k hk)
          have hhp := hid (HHP.out k hkn)
          have hnh := hid (HNH.out k)
          have hng := hid (HNG.out k)
          have hzi := hid (HZI.out k)
          generalize zoneOf d k = zz at *
          obtain ⟨x0, x1, x2, x3, x4, x5, x6⟩ := zz
          simp only at z0 z1 z2 z3 z4 z5 z6
          obtain ⟨w1', hw1⟩ : ∃ u, u = wr.alloc (Obj.cells #[.int .i64 x0, .int .i64 x1, .int .i64 x2, .bool x3, .int .i64 x4, .int .i64 x5, .int .i64 x6] 90) := ⟨_, rfl⟩
          have ba := hid (show Below wr.heap.size wr w1' by rw [hw1]; (repeat (first | exact Below.refl _ _ | assumption | refine below_drewN ?_ _ | refine Below.drew ?_ | refine Below.alloc ?_ (by (try simp); (try omega)) _ | refine Below.setCell ?_ (by (try simp); (try omega)) _)))
          have X1 := hid (show Blk w1' wr.heap.size 90 #[.int .i64 x0, .int .i64 x1, .int .i64 x2, .bool x3, .int .i64 x4, .int .i64 x5, .int .i64 x6] by rw [hw1]; exact Blk.new wr _ _)
          have B1 := hid (HB.out.trans (ba.out.mono HB.out.size))
          go_upto_region 11 with fail
          rw [← hw1]
          clear hw1 ba z0 z1 z2 z3 z4 z5 z6 d0 d1 HB
          generalize wr.heap.size = q at *
          have HD1 := hid (HAt.out w1' B1.out)
          generalize w1' = w1 at *
          have HSF := hid (fun (wq : World) (hq : wq.cell? ⟨q, 0, none⟩ = some (.int .i64 x0) ∧ wq.cell? ⟨b, 0, none⟩ = some (.int .i64 d.me)) => hq)
          refine wpIn_wide.1 (wpIn_region_S (n := 0) (fun wq => wq.cell? ⟨q, 0, none⟩ = some (.int .i64 x0) ∧ wq.cell? ⟨b, 0, none⟩ = some (.int .i64 d.me)) [] (by kernel_rfl) ⟨X1.out.cell 0, HD1.out.1⟩ (fun hHeld => ?_))
          have bd := hid (show Below w1.heap.size w1 w1.drew by (repeat (first | exact Below.refl _ _ | assumption | refine below_drewN ?_ _ | refine Below.drew ?_ | refine Below.alloc ?_ (by (try simp); (try omega)) _ | refine Below.setCell ?_ (by (try simp); (try omega)) _)))
          have X2 := hid (X1.out.below bd.out X1.out.lt)
          have B2 := hid (B1.out.trans (bd.out.mono B1.out.size))
          clear X1 B1 bd HD1
          generalize w1.drew = w2 at *
          refine wpAnyS_pure 0 (v := ?_) (fun _ => trivial) (by simp only [List.getElem?_toArray, List.getElem?_cons_succ, List.getElem?_cons_zero]; rfl) (by kernel_rfl) (fun _ _ _ _ _ h => h) ⟨rfl, (by intro c h; cases h), ?_⟩ hHeld ?_
          rotate_left
          focus (intro wS hSw; (try replace hSw := HSF.out wS hSw); (try dsimp only at hSw); go_simp; (try with_reducible rfl))
          (try simp only [Act.put, List.setIfInBounds_toArray, List.set_cons_zero, List.set_cons_succ])
          refine wpAnyS_take 1 (v := ?_) (fun _ => trivial) (by simp only [List.getElem?_toArray, List.getElem?_cons_succ, List.getElem?_cons_zero]; rfl) (by kernel_rfl) (fun _ _ _ _ _ h => h) ⟨rfl, (by intro c h; cases h), ?_⟩ hHeld ?_
          rotate_left
          focus (intro wS hSw; (try replace hSw := HSF.out wS hSw); (try dsimp only at hSw); go_simp; (try with_reducible rfl))
          (try simp only [Act.put, List.setIfInBounds_toArray, List.set_cons_zero, List.set_cons_succ])
          refine wpAnyS_pure 2 (v := ?_) (fun _ => trivial) (by simp only [List.getElem?_toArray, List.getElem?_cons_succ, List.getElem?_cons_zero]; rfl) (by kernel_rfl) (fun _ _ _ _ _ h => h) ⟨rfl, (by intro c h; cases h), ?_⟩ hHeld ?_
          rotate_left
          focus (intro wS hSw; (try replace hSw := HSF.out wS hSw); (try dsimp only at hSw); go_simp; (try with_reducible rfl))
          (try simp only [Act.put, List.setIfInBounds_toArray, List.set_cons_zero, List.set_cons_succ])
          refine wpAnyS_pure 3 (v := ?_) (fun _ => trivial) (by simp only [List.getElem?_toArray, List.getElem?_cons_succ, List.getElem?_cons_zero]; rfl) (by kernel_rfl) (fun _ _ _ _ _ h => h) ⟨rfl, (by intro c h; cases h), ?_⟩ hHeld ?_
          rotate_left
          focus (intro wS hSw; (try replace hSw := HSF.out wS hSw); (try dsimp only at hSw); go_simp; (try with_reducible rfl))
          (try simp only [Act.put, List.setIfInBounds_toArray, List.set_cons_zero, List.set_cons_succ])
          refine wpAnyS_pure 4 (v := ?_) (fun _ => trivial) (by simp only [List.getElem?_toArray, List.getElem?_cons_succ, List.getElem?_cons_zero]; rfl) (by kernel_rfl) (fun _ _ _ _ _ h => h) ⟨rfl, (by intro c h; cases h), ?_⟩ hHeld ?_
          rotate_left
          focus (intro wS hSw; (try replace hSw := HSF.out wS hSw); (try dsimp only at hSw); go_simp; (try with_reducible rfl))
          (try simp only [Act.put, List.setIfInBounds_toArray, List.set_cons_zero, List.set_cons_succ])
          refine wpAnyS_take 5 (v := ?_) (fun _ => trivial) (by simp only [List.getElem?_toArray, List.getElem?_cons_succ, List.getElem?_cons_zero]; rfl) (by kernel_rfl) (fun _ _ _ _ _ h => h) ⟨rfl, (by intro c h; cases h), ?_⟩ hHeld ?_
          rotate_left
          focus (intro wS hSw; (try replace hSw := HSF.out wS hSw); (try dsimp only at hSw); go_simp; (try with_reducible rfl))
          (try simp only [Act.put, List.setIfInBounds_toArray, List.set_cons_zero, List.set_cons_succ])
          refine wpAnyS_pure 6 (v := ?_) (fun _ => trivial) (by simp only [List.getElem?_toArray, List.getElem?_cons_succ, List.getElem?_cons_zero]; rfl) (by kernel_rfl) (fun _ _ _ _ _ h => h) ⟨rfl, (by intro c h; cases h), ?_⟩ hHeld ?_
          rotate_left
          focus (intro wS hSw; (try replace hSw := HSF.out wS hSw); (try dsimp only at hSw); go_simp; (try with_reducible rfl))
          (try simp only [Act.put, List.setIfInBounds_toArray, List.set_cons_zero, List.set_cons_succ])
          refine wpAnyS_done (by kernel_rfl) ?_
          clear hHeld HSF
          by_cases hm : x0 = d.me
          · as_aux_lemma =>
            have hn3 := hid (hnh.out (hhp.out.1 hm))
            simp only at hn3
            have hzi' := hzi.out
            have JI0 := hid (show I64 x1 from hzi'.2.1)
            have JI1 := hid (show I64 x2 from hzi'.2.2.1)
            subst hm
            clear hzi' hzi hng hnh hhp
            cases x3 with
            | false =>
              have JI2 := hid (show I64 (0 : Int) by simp [I64])
              obtain ⟨y0, y3⟩ := And.intro (X2.out.cell 0) (X2.out.cell 3)
              simp at y0 y3
              have HC0 := hid (fun W => rInt_any (x1) JI0.out W)
              have se0 : (bs (encI (x1))).size ≤ 22 := by rw [bs_size]; exact encI_le22 _ JI0.out
              have HC1 := hid (fun W => rInt_any (x2) JI1.out W)
              have se1 : (bs (encI (x2))).size ≤ 22 := by rw [bs_size]; exact encI_le22 _ JI1.out
              have HC2 := hid (fun W => rInt_any (0) JI2.out W)
              have se2 : (bs (encI (0))).size ≤ 22 := by rw [bs_size]; exact encI_le22 _ JI2.out
              have hss : (bs (F k)).size ≤ 8000 := by rw [bs_size]; exact hLk.out
              have HFin := hid (show bs (F k) ++ bs (encI (x1)) ++ bs (encI (x2)) ++ bs (encI (0)) = bs (F (k + 1)) by
                rw [hSk.out, hn3.out]
                simp [bs_app, List.append_assoc])
              generalize bs (encI (x1)) = E0 at *
              generalize bs (encI (x2)) = E1 at *
              generalize bs (encI (0)) = E2 at *
              have HF0 := hid (show bs (F k) = bs (F k) from rfl)
              clear HF0
              obtain ⟨S0, hS0⟩ : ∃ S0, S0 = bs (F k) := ⟨_, rfl⟩
              rw [← hS0] at hss HFin ⊢
              clear hS0
              have ad0 : ¬ 9223372036854775807 < S0.size + E0.size := by omega
              have af0 : ¬ (9223372036854775807 : Int) < ((S0.size : Nat) : Int) + (E0.size : Int) := by omega
              have ag0 : ¬ (9223372036854775807 : Int) < (S0.size : Int)+(E0.size : Int) := by omega
              have ad1 : ¬ 9223372036854775807 < S0.size + E0.size + E1.size := by omega
              have ae1 : ¬ 9223372036854775807 < (S0 ++ E0).size + E1.size := by simp only [ByteArray.size_append]; omega
              have af1 : ¬ (9223372036854775807 : Int) < ((S0.size + E0.size : Nat) : Int) + (E1.size : Int) := by omega
              have ag1 : ¬ (9223372036854775807 : Int) < (S0.size : Int)+(E0.size : Int)+(E1.size : Int) := by omega
              have ad2 : ¬ 9223372036854775807 < S0.size + E0.size + E1.size + E2.size := by omega
              have ae2 : ¬ 9223372036854775807 < (S0 ++ E0 ++ E1).size + E2.size := by simp only [ByteArray.size_append]; omega
              have af2 : ¬ (9223372036854775807 : Int) < ((S0.size + E0.size + E1.size : Nat) : Int) + (E2.size : Int) := by omega
              have ag2 : ¬ (9223372036854775807 : Int) < (S0.size : Int)+(E0.size : Int)+(E1.size : Int)+(E2.size : Int) := by omega
              clear se0
              clear se1
              clear se2
              clear hss
              go_upto_region 15 with fail
              have BD := hid ((Below.refl w2.heap.size w2).drew)
              have HSF := hid (fun (wq : World) (hq : Below w2.heap.size w2 wq) => show wq.cell? ⟨q, 1, none⟩ = some (.int .i64 x1) ∧ wq.cell? ⟨q, 2, none⟩ = some (.int .i64 x2) ∧ wq.cell? ⟨q, 4, none⟩ = some (.int .i64 x4) ∧ wq.cell? ⟨q, 5, none⟩ = some (.int .i64 x5) ∧ wq.cell? ⟨q, 6, none⟩ = some (.int .i64 x6) from
                ⟨(X2.out.below hq X2.out.lt).cell 1, (X2.out.below hq X2.out.lt).cell 2, (X2.out.below hq X2.out.lt).cell 4, (X2.out.below hq X2.out.lt).cell 5, (X2.out.below hq X2.out.lt).cell 6⟩)
              refine wpIn_wide.1 (wpIn_region_S (n := 0) (fun wq => Below w2.heap.size w2 wq) [] (by kernel_rfl) BD.out (fun hHeld => ?_))
              generalize w2.drew = wd at *
              refine wpAnyG_pure 0 (v := ?_) (fun _ => trivial) (by simp only [List.getElem?_toArray, List.getElem?_cons_succ, List.getElem?_cons_zero]; rfl) (by kernel_rfl) (fun _ _ _ _ _ h => h) ⟨(by rfl), (by intro c h; cases h), ?_⟩ hHeld ?_
              rotate_left
              focus (intro wS hSw; (try replace hSw := HSF.out wS hSw); (try dsimp only at hSw); go_simp; (try with_reducible rfl))
              (try simp only [Act.put, List.setIfInBounds_toArray, List.set_cons_zero, List.set_cons_succ])
              refine wpAnyG_pure 1 (v := ?_) (fun _ => trivial) (by simp only [List.getElem?_toArray, List.getElem?_cons_succ, List.getElem?_cons_zero]; rfl) (by kernel_rfl) (fun _ _ _ _ _ h => h) ⟨(by rfl), (by intro c h; cases h), ?_⟩ hHeld ?_
              rotate_left
              focus (intro wS hSw; (try replace hSw := HSF.out wS hSw); (try dsimp only at hSw); go_simp; (try with_reducible rfl))
              (try simp only [Act.put, List.setIfInBounds_toArray, List.set_cons_zero, List.set_cons_succ])
              refine wpAnyG_take 2 (v := ?_) (fun _ => trivial) (by simp only [List.getElem?_toArray, List.getElem?_cons_succ, List.getElem?_cons_zero]; rfl) (by kernel_rfl) (fun _ _ _ _ _ h => h) ⟨(by rfl), (by intro c h; cases h), ?_⟩ hHeld ?_
              rotate_left
              focus (intro wS hSw; (try replace hSw := HSF.out wS hSw); (try dsimp only at hSw); go_simp; (try with_reducible rfl))
              (try simp only [Act.put, List.setIfInBounds_toArray, List.set_cons_zero, List.set_cons_succ])
              refine wpAnyG_pure 5 (v := ?_) (fun _ => trivial) (by simp only [List.getElem?_toArray, List.getElem?_cons_succ, List.getElem?_cons_zero]; rfl) (by kernel_rfl) (fun _ _ _ _ _ h => h) ⟨(by rfl), (by intro c h; cases h), ?_⟩ hHeld ?_
              rotate_left
              focus (intro wS hSw; (try replace hSw := HSF.out wS hSw); (try dsimp only at hSw); go_simp; (try with_reducible rfl))
              (try simp only [Act.put, List.setIfInBounds_toArray, List.set_cons_zero, List.set_cons_succ])
              refine wpAnyG_take 6 (v := ?_) (fun _ => trivial) (by simp only [List.getElem?_toArray, List.getElem?_cons_succ, List.getElem?_cons_zero]; rfl) (by kernel_rfl) (fun _ _ _ _ _ h => h) ⟨(by rfl), (by intro c h; cases h), ?_⟩ hHeld ?_
              rotate_left
              focus (intro wS hSw; (try replace hSw := HSF.out wS hSw); (try dsimp only at hSw); go_simp; (try with_reducible rfl))
              (try simp only [Act.put, List.setIfInBounds_toArray, List.set_cons_zero, List.set_cons_succ])
              refine wpAnyG_pure 9 (v := ?_) (fun _ => trivial) (by simp only [List.getElem?_toArray, List.getElem?_cons_succ, List.getElem?_cons_zero]; rfl) (by kernel_rfl) (fun _ _ _ _ _ h => h) ⟨(by rfl), (by intro c h; cases h), ?_⟩ hHeld ?_
              rotate_left
              focus (intro wS hSw; (try replace hSw := HSF.out wS hSw); (try dsimp only at hSw); go_simp; (try with_reducible rfl))
              (try simp only [Act.put, List.setIfInBounds_toArray, List.set_cons_zero, List.set_cons_succ])
              refine wpAnyS_ready [3] (by kernel_rfl) (by simp) (AllReadyS.consG (by simp only [List.getElem?_toArray, List.getElem?_cons_succ, List.getElem?_cons_zero]; rfl) (by rfl) (fun K hK => ?_) AllReadyS.nil)
              refine callS (by intro c h; cases h) (by go_simp; try with_reducible rfl) (HC0.out _) ?_
              intro u0 hBq
              have C0 := hid (BD.out.trans (hBq.mono BD.out.size))
              refine hK.out _ _ C0.out ?_
              (try simp only [Act.put, List.setIfInBounds_toArray, List.set_cons_zero, List.set_cons_succ])
              clear hK K hBq
              clear hHeld
              have hHeld := C0.out
              refine wpAnyG_pure 4 (v := ?_) (fun _ => trivial) (by simp only [List.getElem?_toArray, List.getElem?_cons_succ, List.getElem?_cons_zero]; rfl) (by kernel_rfl) (fun _ _ _ _ _ h => h) ⟨(by rfl), (by intro c h; cases h), ?_⟩ hHeld ?_
              rotate_left
              focus (intro wS hSw; (try replace hSw := HSF.out wS hSw); (try dsimp only at hSw); go_simp; (try with_reducible rfl))
              (try simp only [Act.put, List.setIfInBounds_toArray, List.set_cons_zero, List.set_cons_succ])
              refine wpAnyS_ready [7] (by kernel_rfl) (by simp) (AllReadyS.consG (by simp only [List.getElem?_toArray, List.getElem?_cons_succ, List.getElem?_cons_zero]; rfl) (by rfl) (fun K hK => ?_) AllReadyS.nil)
              refine callS (by intro c h; cases h) (by go_simp; try with_reducible rfl) (HC1.out _) ?_
              intro u1 hBq
              have C1 := hid (C0.out.trans (hBq.mono C0.out.size))
              refine hK.out _ _ C1.out ?_
              (try simp only [Act.put, List.setIfInBounds_toArray, List.set_cons_zero, List.set_cons_succ])
              clear hK K hBq
              clear hHeld
              have hHeld := C1.out
              refine wpAnyG_pure 8 (v := ?_) (fun _ => trivial) (by simp only [List.getElem?_toArray, List.getElem?_cons_succ, List.getElem?_cons_zero]; rfl) (by kernel_rfl) (fun _ _ _ _ _ h => h) ⟨(by rfl), (by intro c h; cases h), ?_⟩ hHeld ?_
              rotate_left
              focus (intro wS hSw; (try replace hSw := HSF.out wS hSw); (try dsimp only at hSw); go_simp; (try with_reducible rfl))
              (try simp only [Act.put, List.setIfInBounds_toArray, List.set_cons_zero, List.set_cons_succ])
              refine wpAnyS_ready [10] (by kernel_rfl) (by simp) (AllReadyS.consG (by simp only [List.getElem?_toArray, List.getElem?_cons_succ, List.getElem?_cons_zero]; rfl) (by rfl) (fun K hK => ?_) AllReadyS.nil)
              refine callS (by intro c h; cases h) (by go_simp; try with_reducible rfl) (HC2.out _) ?_
              intro u2 hBq
              have C2 := hid (C1.out.trans (hBq.mono C1.out.size))
              refine hK.out _ _ C2.out ?_
              (try simp only [Act.put, List.setIfInBounds_toArray, List.set_cons_zero, List.set_cons_succ])
              clear hK K hBq
              clear hHeld
              have hHeld := C2.out
              refine wpAnyG_pure 11 (v := ?_) (fun _ => trivial) (by simp only [List.getElem?_toArray, List.getElem?_cons_succ, List.getElem?_cons_zero]; rfl) (by kernel_rfl) (fun _ _ _ _ _ h => h) ⟨(by rfl), (by intro c h; cases h), ?_⟩ hHeld ?_
              rotate_left
              focus (intro wS hSw; (try replace hSw := HSF.out wS hSw); (try dsimp only at hSw); go_simp; (try with_reducible rfl))
              (try simp only [Act.put, List.setIfInBounds_toArray, List.set_cons_zero, List.set_cons_succ])
              refine wpAnyG_pure 12 (v := ?_) (fun _ => trivial) (by simp only [List.getElem?_toArray, List.getElem?_cons_succ, List.getElem?_cons_zero]; rfl) (by kernel_rfl) (fun _ _ _ _ _ h => h) ⟨(by rfl), (by intro c h; cases h), ?_⟩ hHeld ?_
              rotate_left
              focus (intro wS hSw; (try replace hSw := HSF.out wS hSw); (try dsimp only at hSw); go_simp; (try with_reducible rfl))
              (try simp only [Act.put, List.setIfInBounds_toArray, List.set_cons_zero, List.set_cons_succ])
              refine wpAnyS_done (by kernel_rfl) ?_
              have B9 := hid (B2.out.trans (C2.out.mono B2.out.size))
              clear hHeld HSF BD C0 C1 C2
              (try rw [HFin.out])
              go_wp2_with fail
              (try rw [HFin.out])
              go_roundw
              case rel => exact ⟨k + 1, by first | exact congrArg (Value.int .i64) hk1 | (simp [hk1]; done), hkn, by first | rfl | rw [HFin.out], B9.out⟩
              case measure => simp [intOf, hk1]; omega
            | true =>
              have JI2 := hid (show I64 (1 : Int) by simp [I64])
              obtain ⟨y0, y3⟩ := And.intro (X2.out.cell 0) (X2.out.cell 3)
              simp at y0 y3
              have HC0 := hid (fun W => rInt_any (x1) JI0.out W)
              have se0 : (bs (encI (x1))).size ≤ 22 := by rw [bs_size]; exact encI_le22 _ JI0.out
              have HC1 := hid (fun W => rInt_any (x2) JI1.out W)
              have se1 : (bs (encI (x2))).size ≤ 22 := by rw [bs_size]; exact encI_le22 _ JI1.out
              have HC2 := hid (fun W => rInt_any (1) JI2.out W)
              have se2 : (bs (encI (1))).size ≤ 22 := by rw [bs_size]; exact encI_le22 _ JI2.out
              have hss : (bs (F k)).size ≤ 8000 := by rw [bs_size]; exact hLk.out
              have HFin := hid (show bs (F k) ++ bs (encI (x1)) ++ bs (encI (x2)) ++ bs (encI (1)) = bs (F (k + 1)) by
                rw [hSk.out, hn3.out]
                simp [bs_app, List.append_assoc])
              generalize bs (encI (x1)) = E0 at *
              generalize bs (encI (x2)) = E1 at *
              generalize bs (encI (1)) = E2 at *
              have HF0 := hid (show bs (F k) = bs (F k) from rfl)
              clear HF0
              obtain ⟨S0, hS0⟩ : ∃ S0, S0 = bs (F k) := ⟨_, rfl⟩
              rw [← hS0] at hss HFin ⊢
              clear hS0
              have ad0 : ¬ 9223372036854775807 < S0.size + E0.size := by omega
              have af0 : ¬ (9223372036854775807 : Int) < ((S0.size : Nat) : Int) + (E0.size : Int) := by omega
              have ag0 : ¬ (9223372036854775807 : Int) < (S0.size : Int)+(E0.size : Int) := by omega
              have ad1 : ¬ 9223372036854775807 < S0.size + E0.size + E1.size := by omega
              have ae1 : ¬ 9223372036854775807 < (S0 ++ E0).size + E1.size := by simp only [ByteArray.size_append]; omega
              have af1 : ¬ (9223372036854775807 : Int) < ((S0.size + E0.size : Nat) : Int) + (E1.size : Int) := by omega
              have ag1 : ¬ (9223372036854775807 : Int) < (S0.size : Int)+(E0.size : Int)+(E1.size : Int) := by omega
              have ad2 : ¬ 9223372036854775807 < S0.size + E0.size + E1.size + E2.size := by omega
              have ae2 : ¬ 9223372036854775807 < (S0 ++ E0 ++ E1).size + E2.size := by simp only [ByteArray.size_append]; omega
              have af2 : ¬ (9223372036854775807 : Int) < ((S0.size + E0.size + E1.size : Nat) : Int) + (E2.size : Int) := by omega
              have ag2 : ¬ (9223372036854775807 : Int) < (S0.size : Int)+(E0.size : Int)+(E1.size : Int)+(E2.size : Int) := by omega
              clear se0
              clear se1
              clear se2
              clear hss
              go_upto_region 15 with fail
              have BD := hid ((Below.refl w2.heap.size w2).drew)
              have HSF := hid (fun (wq : World) (hq : Below w2.heap.size w2 wq) => show wq.cell? ⟨q, 1, none⟩ = some (.int .i64 x1) ∧ wq.cell? ⟨q, 2, none⟩ = some (.int .i64 x2) ∧ wq.cell? ⟨q, 4, none⟩ = some (.int .i64 x4) ∧ wq.cell? ⟨q, 5, none⟩ = some (.int .i64 x5) ∧ wq.cell? ⟨q, 6, none⟩ = some (.int .i64 x6) from
                ⟨(X2.out.below hq X2.out.lt).cell 1, (X2.out.below hq X2.out.lt).cell 2, (X2.out.below hq X2.out.lt).cell 4, (X2.out.below hq X2.out.lt).cell 5, (X2.out.below hq X2.out.lt).cell 6⟩)
              refine wpIn_wide.1 (wpIn_region_S (n := 0) (fun wq => Below w2.heap.size w2 wq) [] (by kernel_rfl) BD.out (fun hHeld => ?_))
              generalize w2.drew = wd at *
              refine wpAnyG_pure 0 (v := ?_) (fun _ => trivial) (by simp only [List.getElem?_toArray, List.getElem?_cons_succ, List.getElem?_cons_zero]; rfl) (by kernel_rfl) (fun _ _ _ _ _ h => h) ⟨(by rfl), (by intro c h; cases h), ?_⟩ hHeld ?_
              rotate_left
              focus (intro wS hSw; (try replace hSw := HSF.out wS hSw); (try dsimp only at hSw); go_simp; (try with_reducible rfl))
              (try simp only [Act.put, List.setIfInBounds_toArray, List.set_cons_zero, List.set_cons_succ])
              refine wpAnyG_pure 1 (v := ?_) (fun _ => trivial) (by simp only [List.getElem?_toArray, List.getElem?_cons_succ, List.getElem?_cons_zero]; rfl) (by kernel_rfl) (fun _ _ _ _ _ h => h) ⟨(by rfl), (by intro c h; cases h), ?_⟩ hHeld ?_
              rotate_left
              focus (intro wS hSw; (try replace hSw := HSF.out wS hSw); (try dsimp only at hSw); go_simp; (try with_reducible rfl))
              (try simp only [Act.put, List.setIfInBounds_toArray, List.set_cons_zero, List.set_cons_succ])
              refine wpAnyG_take 2 (v := ?_) (fun _ => trivial) (by simp only [List.getElem?_toArray, List.getElem?_cons_succ, List.getElem?_cons_zero]; rfl) (by kernel_rfl) (fun _ _ _ _ _ h => h) ⟨(by rfl), (by intro c h; cases h), ?_⟩ hHeld ?_
              rotate_left
              focus (intro wS hSw; (try replace hSw := HSF.out wS hSw); (try dsimp only at hSw); go_simp; (try with_reducible rfl))
              (try simp only [Act.put, List.setIfInBounds_toArray, List.set_cons_zero, List.set_cons_succ])
              refine wpAnyG_pure 5 (v := ?_) (fun _ => trivial) (by simp only [List.getElem?_toArray, List.getElem?_cons_succ, List.getElem?_cons_zero]; rfl) (by kernel_rfl) (fun _ _ _ _ _ h => h) ⟨(by rfl), (by intro c h; cases h), ?_⟩ hHeld ?_
              rotate_left
              focus (intro wS hSw; (try replace hSw := HSF.out wS hSw); (try dsimp only at hSw); go_simp; (try with_reducible rfl))
              (try simp only [Act.put, List.setIfInBounds_toArray, List.set_cons_zero, List.set_cons_succ])
              refine wpAnyG_take 6 (v := ?_) (fun _ => trivial) (by simp only [List.getElem?_toArray, List.getElem?_cons_succ, List.getElem?_cons_zero]; rfl) (by kernel_rfl) (fun _ _ _ _ _ h => h) ⟨(by rfl), (by intro c h; cases h), ?_⟩ hHeld ?_
              rotate_left
              focus (intro wS hSw; (try replace hSw := HSF.out wS hSw); (try dsimp only at hSw); go_simp; (try with_reducible rfl))
              (try simp only [Act.put, List.setIfInBounds_toArray, List.set_cons_zero, List.set_cons_succ])
              refine wpAnyG_pure 9 (v := ?_) (fun _ => trivial) (by simp only [List.getElem?_toArray, List.getElem?_cons_succ, List.getElem?_cons_zero]; rfl) (by kernel_rfl) (fun _ _ _ _ _ h => h) ⟨(by rfl), (by intro c h; cases h), ?_⟩ hHeld ?_
              rotate_left
              focus (intro wS hSw; (try replace hSw := HSF.out wS hSw); (try dsimp only at hSw); go_simp; (try with_reducible rfl))
              (try simp only [Act.put, List.setIfInBounds_toArray, List.set_cons_zero, List.set_cons_succ])
              refine wpAnyS_ready [3] (by kernel_rfl) (by simp) (AllReadyS.consG (by simp only [List.getElem?_toArray, List.getElem?_cons_succ, List.getElem?_cons_zero]; rfl) (by rfl) (fun K hK => ?_) AllReadyS.nil)
              refine callS (by intro c h; cases h) (by go_simp; try with_reducible rfl) (HC0.out _) ?_
              intro u0 hBq
              have C0 := hid (BD.out.trans (hBq.mono BD.out.size))
              refine hK.out _ _ C0.out ?_
              (try simp only [Act.put, List.setIfInBounds_toArray, List.set_cons_zero, List.set_cons_succ])
              clear hK K hBq
              clear hHeld
              have hHeld := C0.out
              refine wpAnyG_pure 4 (v := ?_) (fun _ => trivial) (by simp only [List.getElem?_toArray, List.getElem?_cons_succ, List.getElem?_cons_zero]; rfl) (by kernel_rfl) (fun _ _ _ _ _ h => h) ⟨(by rfl), (by intro c h; cases h), ?_⟩ hHeld ?_
              rotate_left
              focus (intro wS hSw; (try replace hSw := HSF.out wS hSw); (try dsimp only at hSw); go_simp; (try with_reducible rfl))
              (try simp only [Act.put, List.setIfInBounds_toArray, List.set_cons_zero, List.set_cons_succ])
              refine wpAnyS_ready [7] (by kernel_rfl) (by simp) (AllReadyS.consG (by simp only [List.getElem?_toArray, List.getElem?_cons_succ, List.getElem?_cons_zero]; rfl) (by rfl) (fun K hK => ?_) AllReadyS.nil)
              refine callS (by intro c h; cases h) (by go_simp; try with_reducible rfl) (HC1.out _) ?_
              intro u1 hBq
              have C1 := hid (C0.out.trans (hBq.mono C0.out.size))
              refine hK.out _ _ C1.out ?_
              (try simp only [Act.put, List.setIfInBounds_toArray, List.set_cons_zero, List.set_cons_succ])
              clear hK K hBq
              clear hHeld
              have hHeld := C1.out
              refine wpAnyG_pure 8 (v := ?_) (fun _ => trivial) (by simp only [List.getElem?_toArray, List.getElem?_cons_succ, List.getElem?_cons_zero]; rfl) (by kernel_rfl) (fun _ _ _ _ _ h => h) ⟨(by rfl), (by intro c h; cases h), ?_⟩ hHeld ?_
              rotate_left
              focus (intro wS hSw; (try replace hSw := HSF.out wS hSw); (try dsimp only at hSw); go_simp; (try with_reducible rfl))
              (try simp only [Act.put, List.setIfInBounds_toArray, List.set_cons_zero, List.set_cons_succ])
              refine wpAnyS_ready [10] (by kernel_rfl) (by simp) (AllReadyS.consG (by simp only [List.getElem?_toArray, List.getElem?_cons_succ, List.getElem?_cons_zero]; rfl) (by rfl) (fun K hK => ?_) AllReadyS.nil)
              refine callS (by intro c h; cases h) (by go_simp; try with_reducible rfl) (HC2.out _) ?_
              intro u2 hBq
              have C2 := hid (C1.out.trans (hBq.mono C1.out.size))
              refine hK.out _ _ C2.out ?_
              (try simp only [Act.put, List.setIfInBounds_toArray, List.set_cons_zero, List.set_cons_succ])
              clear hK K hBq
              clear hHeld
              have hHeld := C2.out
              refine wpAnyG_pure 11 (v := ?_) (fun _ => trivial) (by simp only [List.getElem?_toArray, List.getElem?_cons_succ, List.getElem?_cons_zero]; rfl) (by kernel_rfl) (fun _ _ _ _ _ h => h) ⟨(by rfl), (by intro c h; cases h), ?_⟩ hHeld ?_
              rotate_left
              focus (intro wS hSw; (try replace hSw := HSF.out wS hSw); (try dsimp only at hSw); go_simp; (try with_reducible rfl))
              (try simp only [Act.put, List.setIfInBounds_toArray, List.set_cons_zero, List.set_cons_succ])
              refine wpAnyG_pure 12 (v := ?_) (fun _ => trivial) (by simp only [List.getElem?_toArray, List.getElem?_cons_succ, List.getElem?_cons_zero]; rfl) (by kernel_rfl) (fun _ _ _ _ _ h => h) ⟨(by rfl), (by intro c h; cases h), ?_⟩ hHeld ?_
              rotate_left
              focus (intro wS hSw; (try replace hSw := HSF.out wS hSw); (try dsimp only at hSw); go_simp; (try with_reducible rfl))
              (try simp only [Act.put, List.setIfInBounds_toArray, List.set_cons_zero, List.set_cons_succ])
              refine wpAnyS_done (by kernel_rfl) ?_
              have B9 := hid (B2.out.trans (C2.out.mono B2.out.size))
              clear hHeld HSF BD C0 C1 C2
              (try rw [HFin.out])
              go_wp2_with fail
              (try rw [HFin.out])
              go_roundw
              case rel => exact ⟨k + 1, by first | exact congrArg (Value.int .i64) hk1 | (simp [hk1]; done), hkn, by first | rfl | rw [HFin.out], B9.out⟩
              case measure => simp [intOf, hk1]; omega
          · as_aux_lemma =>
            have hp : d.hp k = false := by
              cases hq : d.hp k with
              | false => rfl
              | true => exact absurd (hhp.out.2 hq) hm
            have hn3 := hid (hng.out hp)
            simp only at hn3
            have hzi' := hzi.out
            have JI0 := hid (show I64 x1 from hzi'.2.1)
            have JI1 := hid (show I64 x4 from hzi'.2.2.2.1)
            have JI2 := hid (show I64 x5 from hzi'.2.2.2.2.1)
            have JI3 := hid (show I64 x6 from hzi'.2.2.2.2.2)
            clear hzi' hzi hng hnh hhp hp
            have HC0 := hid (fun W => rInt_any (x1) JI0.out W)
            have se0 : (bs (encI (x1))).size ≤ 22 := by rw [bs_size]; exact encI_le22 _ JI0.out
            have HC1 := hid (fun W => rInt_any (x4) JI1.out W)
            have se1 : (bs (encI (x4))).size ≤ 22 := by rw [bs_size]; exact encI_le22 _ JI1.out
            have HC2 := hid (fun W => rInt_any (x5) JI2.out W)
            have se2 : (bs (encI (x5))).size ≤ 22 := by rw [bs_size]; exact encI_le22 _ JI2.out
            have HC3 := hid (fun W => rInt_any (x6) JI3.out W)
            have se3 : (bs (encI (x6))).size ≤ 22 := by rw [bs_size]; exact encI_le22 _ JI3.out
            have hss : (bs (F k)).size ≤ 8000 := by rw [bs_size]; exact hLk.out
            have HFin := hid (show bs (F k) ++ bs (encI (x1)) ++ bs (encI (x4)) ++ bs (encI (x5)) ++ bs (encI (x6)) = bs (F (k + 1)) by
              rw [hSk.out, hn3.out]
              simp [bs_app, List.append_assoc])
            generalize bs (encI (x1)) = E0 at *
            generalize bs (encI (x4)) = E1 at *
            generalize bs (encI (x5)) = E2 at *
            generalize bs (encI (x6)) = E3 at *
            have HF0 := hid (show bs (F k) = bs (F k) from rfl)
            clear HF0
            obtain ⟨S0, hS0⟩ : ∃ S0, S0 = bs (F k) := ⟨_, rfl⟩
            rw [← hS0] at hss HFin ⊢
            clear hS0
            have ad0 : ¬ 9223372036854775807 < S0.size + E0.size := by omega
            have af0 : ¬ (9223372036854775807 : Int) < ((S0.size : Nat) : Int) + (E0.size : Int) := by omega
            have ag0 : ¬ (9223372036854775807 : Int) < (S0.size : Int)+(E0.size : Int) := by omega
            have ad1 : ¬ 9223372036854775807 < S0.size + E0.size + E1.size := by omega
            have ae1 : ¬ 9223372036854775807 < (S0 ++ E0).size + E1.size := by simp only [ByteArray.size_append]; omega
            have af1 : ¬ (9223372036854775807 : Int) < ((S0.size + E0.size : Nat) : Int) + (E1.size : Int) := by omega
            have ag1 : ¬ (9223372036854775807 : Int) < (S0.size : Int)+(E0.size : Int)+(E1.size : Int) := by omega
            have ad2 : ¬ 9223372036854775807 < S0.size + E0.size + E1.size + E2.size := by omega
            have ae2 : ¬ 9223372036854775807 < (S0 ++ E0 ++ E1).size + E2.size := by simp only [ByteArray.size_append]; omega
            have af2 : ¬ (9223372036854775807 : Int) < ((S0.size + E0.size + E1.size : Nat) : Int) + (E2.size : Int) := by omega
            have ag2 : ¬ (9223372036854775807 : Int) < (S0.size : Int)+(E0.size : Int)+(E1.size : Int)+(E2.size : Int) := by omega
            have ad3 : ¬ 9223372036854775807 < S0.size + E0.size + E1.size + E2.size + E3.size := by omega
            have ae3 : ¬ 9223372036854775807 < (S0 ++ E0 ++ E1 ++ E2).size + E3.size := by simp only [ByteArray.size_append]; omega
            have af3 : ¬ (9223372036854775807 : Int) < ((S0.size + E0.size + E1.size + E2.size : Nat) : Int) + (E3.size : Int) := by omega
            have ag3 : ¬ (9223372036854775807 : Int) < (S0.size : Int)+(E0.size : Int)+(E1.size : Int)+(E2.size : Int)+(E3.size : Int) := by omega
            clear se0
            clear se1
            clear se2
            clear se3
            clear hss
            go_upto_region 16 with fail
            have BD := hid ((Below.refl w2.heap.size w2).drew)
            have HSF := hid (fun (wq : World) (hq : Below w2.heap.size w2 wq) => show wq.cell? ⟨q, 1, none⟩ = some (.int .i64 x1) ∧ wq.cell? ⟨q, 2, none⟩ = some (.int .i64 x2) ∧ wq.cell? ⟨q, 4, none⟩ = some (.int .i64 x4) ∧ wq.cell? ⟨q, 5, none⟩ = some (.int .i64 x5) ∧ wq.cell? ⟨q, 6, none⟩ = some (.int .i64 x6) from
              ⟨(X2.out.below hq X2.out.lt).cell 1, (X2.out.below hq X2.out.lt).cell 2, (X2.out.below hq X2.out.lt).cell 4, (X2.out.below hq X2.out.lt).cell 5, (X2.out.below hq X2.out.lt).cell 6⟩)
            refine wpIn_wide.1 (wpIn_region_S (n := 0) (fun wq => Below w2.heap.size w2 wq) [] (by kernel_rfl) BD.out (fun hHeld => ?_))
            generalize w2.drew = wd at *
            refine wpAnyG_pure 0 (v := ?_) (fun _ => trivial) (by simp only [List.getElem?_toArray, List.getElem?_cons_succ, List.getElem?_cons_zero]; rfl) (by kernel_rfl) (fun _ _ _ _ _ h => h) ⟨(by rfl), (by intro c h; cases h), ?_⟩ hHeld ?_
            rotate_left
            focus (intro wS hSw; (try replace hSw := HSF.out wS hSw); (try dsimp only at hSw); go_simp; (try with_reducible rfl))
            (try simp only [Act.put, List.setIfInBounds_toArray, List.set_cons_zero, List.set_cons_succ])
            refine wpAnyG_pure 1 (v := ?_) (fun _ => trivial) (by simp only [List.getElem?_toArray, List.getElem?_cons_succ, List.getElem?_cons_zero]; rfl) (by kernel_rfl) (fun _ _ _ _ _ h => h) ⟨(by rfl), (by intro c h; cases h), ?_⟩ hHeld ?_
            rotate_left
            focus (intro wS hSw; (try replace hSw := HSF.out wS hSw); (try dsimp only at hSw); go_simp; (try with_reducible rfl))
            (try simp only [Act.put, List.setIfInBounds_toArray, List.set_cons_zero, List.set_cons_succ])
            refine wpAnyG_take 2 (v := ?_) (fun _ => trivial) (by simp only [List.getElem?_toArray, List.getElem?_cons_succ, List.getElem?_cons_zero]; rfl) (by kernel_rfl) (fun _ _ _ _ _ h => h) ⟨(by rfl), (by intro c h; cases h), ?_⟩ hHeld ?_
            rotate_left
            focus (intro wS hSw; (try replace hSw := HSF.out wS hSw); (try dsimp only at hSw); go_simp; (try with_reducible rfl))
            (try simp only [Act.put, List.setIfInBounds_toArray, List.set_cons_zero, List.set_cons_succ])
            refine wpAnyG_pure 5 (v := ?_) (fun _ => trivial) (by simp only [List.getElem?_toArray, List.getElem?_cons_succ, List.getElem?_cons_zero]; rfl) (by kernel_rfl) (fun _ _ _ _ _ h => h) ⟨(by rfl), (by intro c h; cases h), ?_⟩ hHeld ?_
            rotate_left
            focus (intro wS hSw; (try replace hSw := HSF.out wS hSw); (try dsimp only at hSw); go_simp; (try with_reducible rfl))
            (try simp only [Act.put, List.setIfInBounds_toArray, List.set_cons_zero, List.set_cons_succ])
            refine wpAnyG_take 6 (v := ?_) (fun _ => trivial) (by simp only [List.getElem?_toArray, List.getElem?_cons_succ, List.getElem?_cons_zero]; rfl) (by kernel_rfl) (fun _ _ _ _ _ h => h) ⟨(by rfl), (by intro c h; cases h), ?_⟩ hHeld ?_
            rotate_left
            focus (intro wS hSw; (try replace hSw := HSF.out wS hSw); (try dsimp only at hSw); go_simp; (try with_reducible rfl))
            (try simp only [Act.put, List.setIfInBounds_toArray, List.set_cons_zero, List.set_cons_succ])
            refine wpAnyG_pure 9 (v := ?_) (fun _ => trivial) (by simp only [List.getElem?_toArray, List.getElem?_cons_succ, List.getElem?_cons_zero]; rfl) (by kernel_rfl) (fun _ _ _ _ _ h => h) ⟨(by rfl), (by intro c h; cases h), ?_⟩ hHeld ?_
            rotate_left
            focus (intro wS hSw; (try replace hSw := HSF.out wS hSw); (try dsimp only at hSw); go_simp; (try with_reducible rfl))
            (try simp only [Act.put, List.setIfInBounds_toArray, List.set_cons_zero, List.set_cons_succ])
            refine wpAnyG_take 10 (v := ?_) (fun _ => trivial) (by simp only [List.getElem?_toArray, List.getElem?_cons_succ, List.getElem?_cons_zero]; rfl) (by kernel_rfl) (fun _ _ _ _ _ h => h) ⟨(by rfl), (by intro c h; cases h), ?_⟩ hHeld ?_
            rotate_left
            focus (intro wS hSw; (try replace hSw := HSF.out wS hSw); (try dsimp only at hSw); go_simp; (try with_reducible rfl))
            (try simp only [Act.put, List.setIfInBounds_toArray, List.set_cons_zero, List.set_cons_succ])
            refine wpAnyG_pure 13 (v := ?_) (fun _ => trivial) (by simp only [List.getElem?_toArray, List.getElem?_cons_succ, List.getElem?_cons_zero]; rfl) (by kernel_rfl) (fun _ _ _ _ _ h => h) ⟨(by rfl), (by intro c h; cases h), ?_⟩ hHeld ?_
            rotate_left
            focus (intro wS hSw; (try replace hSw := HSF.out wS hSw); (try dsimp only at hSw); go_simp; (try with_reducible rfl))
            (try simp only [Act.put, List.setIfInBounds_toArray, List.set_cons_zero, List.set_cons_succ])
            refine wpAnyG_take 14 (v := ?_) (fun _ => trivial) (by simp only [List.getElem?_toArray, List.getElem?_cons_succ, List.getElem?_cons_zero]; rfl) (by kernel_rfl) (fun _ _ _ _ _ h => h) ⟨(by rfl), (by intro c h; cases h), ?_⟩ hHeld ?_
            rotate_left
            focus (intro wS hSw; (try replace hSw := HSF.out wS hSw); (try dsimp only at hSw); go_simp; (try with_reducible rfl))
            (try simp only [Act.put, List.setIfInBounds_toArray, List.set_cons_zero, List.set_cons_succ])
            refine wpAnyS_ready [3] (by kernel_rfl) (by simp) (AllReadyS.consG (by simp only [List.getElem?_toArray, List.getElem?_cons_succ, List.getElem?_cons_zero]; rfl) (by rfl) (fun K hK => ?_) AllReadyS.nil)
            refine callS (by intro c h; cases h) (by go_simp; try with_reducible rfl) (HC0.out _) ?_
            intro u0 hBq
            have C0 := hid (BD.out.trans (hBq.mono BD.out.size))
            refine hK.out _ _ C0.out ?_
            (try simp only [Act.put, List.setIfInBounds_toArray, List.set_cons_zero, List.set_cons_succ])
            clear hK K hBq
            clear hHeld
            have hHeld := C0.out
            refine wpAnyG_pure 4 (v := ?_) (fun _ => trivial) (by simp only [List.getElem?_toArray, List.getElem?_cons_succ, List.getElem?_cons_zero]; rfl) (by kernel_rfl) (fun _ _ _ _ _ h => h) ⟨(by rfl), (by intro c h; cases h), ?_⟩ hHeld ?_
            rotate_left
            focus (intro wS hSw; (try replace hSw := HSF.out wS hSw); (try dsimp only at hSw); go_simp; (try with_reducible rfl))
            (try simp only [Act.put, List.setIfInBounds_toArray, List.set_cons_zero, List.set_cons_succ])
            refine wpAnyS_ready [7] (by kernel_rfl) (by simp) (AllReadyS.consG (by simp only [List.getElem?_toArray, List.getElem?_cons_succ, List.getElem?_cons_zero]; rfl) (by rfl) (fun K hK => ?_) AllReadyS.nil)
            refine callS (by intro c h; cases h) (by go_simp; try with_reducible rfl) (HC1.out _) ?_
            intro u1 hBq
            have C1 := hid (C0.out.trans (hBq.mono C0.out.size))
            refine hK.out _ _ C1.out ?_
            (try simp only [Act.put, List.setIfInBounds_toArray, List.set_cons_zero, List.set_cons_succ])
            clear hK K hBq
            clear hHeld
            have hHeld := C1.out
            refine wpAnyG_pure 8 (v := ?_) (fun _ => trivial) (by simp only [List.getElem?_toArray, List.getElem?_cons_succ, List.getElem?_cons_zero]; rfl) (by kernel_rfl) (fun _ _ _ _ _ h => h) ⟨(by rfl), (by intro c h; cases h), ?_⟩ hHeld ?_
            rotate_left
            focus (intro wS hSw; (try replace hSw := HSF.out wS hSw); (try dsimp only at hSw); go_simp; (try with_reducible rfl))
            (try simp only [Act.put, List.setIfInBounds_toArray, List.set_cons_zero, List.set_cons_succ])
            refine wpAnyS_ready [11] (by kernel_rfl) (by simp) (AllReadyS.consG (by simp only [List.getElem?_toArray, List.getElem?_cons_succ, List.getElem?_cons_zero]; rfl) (by rfl) (fun K hK => ?_) AllReadyS.nil)
            refine callS (by intro c h; cases h) (by go_simp; try with_reducible rfl) (HC2.out _) ?_
            intro u2 hBq
            have C2 := hid (C1.out.trans (hBq.mono C1.out.size))
            refine hK.out _ _ C2.out ?_
            (try simp only [Act.put, List.setIfInBounds_toArray, List.set_cons_zero, List.set_cons_succ])
            clear hK K hBq
            clear hHeld
            have hHeld := C2.out
            refine wpAnyG_pure 12 (v := ?_) (fun _ => trivial) (by simp only [List.getElem?_toArray, List.getElem?_cons_succ, List.getElem?_cons_zero]; rfl) (by kernel_rfl) (fun _ _ _ _ _ h => h) ⟨(by rfl), (by intro c h; cases h), ?_⟩ hHeld ?_
            rotate_left
            focus (intro wS hSw; (try replace hSw := HSF.out wS hSw); (try dsimp only at hSw); go_simp; (try with_reducible rfl))
            (try simp only [Act.put, List.setIfInBounds_toArray, List.set_cons_zero, List.set_cons_succ])
            refine wpAnyS_ready [15] (by kernel_rfl) (by simp) (AllReadyS.consG (by simp only [List.getElem?_toArray, List.getElem?_cons_succ, List.getElem?_cons_zero]; rfl) (by rfl) (fun K hK => ?_) AllReadyS.nil)
            refine callS (by intro c h; cases h) (by go_simp; try with_reducible rfl) (HC3.out _) ?_
            intro u3 hBq
            have C3 := hid (C2.out.trans (hBq.mono C2.out.size))
            refine hK.out _ _ C3.out ?_
            (try simp only [Act.put, List.setIfInBounds_toArray, List.set_cons_zero, List.set_cons_succ])
            clear hK K hBq
            clear hHeld
            have hHeld := C3.out
            refine wpAnyG_pure 16 (v := ?_) (fun _ => trivial) (by simp only [List.getElem?_toArray, List.getElem?_cons_succ, List.getElem?_cons_zero]; rfl) (by kernel_rfl) (fun _ _ _ _ _ h => h) ⟨(by rfl), (by intro c h; cases h), ?_⟩ hHeld ?_
            rotate_left
            focus (intro wS hSw; (try replace hSw := HSF.out wS hSw); (try dsimp only at hSw); go_simp; (try with_reducible rfl))
            (try simp only [Act.put, List.setIfInBounds_toArray, List.set_cons_zero, List.set_cons_succ])
            refine wpAnyG_pure 17 (v := ?_) (fun _ => trivial) (by simp only [List.getElem?_toArray, List.getElem?_cons_succ, List.getElem?_cons_zero]; rfl) (by kernel_rfl) (fun _ _ _ _ _ h => h) ⟨(by rfl), (by intro c h; cases h), ?_⟩ hHeld ?_
            rotate_left
            focus (intro wS hSw; (try replace hSw := HSF.out wS hSw); (try dsimp only at hSw); go_simp; (try with_reducible rfl))
            (try simp only [Act.put, List.setIfInBounds_toArray, List.set_cons_zero, List.set_cons_succ])
            refine wpAnyS_done (by kernel_rfl) ?_
            have B9 := hid (B2.out.trans (C3.out.mono B2.out.size))
            clear hHeld HSF BD C0 C1 C2 C3
            (try rw [HFin.out])
            go_wp2_with fail
            (try rw [HFin.out])
            go_roundw
            case rel => exact ⟨k + 1, by first | exact congrArg (Value.int .i64) hk1 | (simp [hk1]; done), hkn, by first | rfl | rw [HFin.out], B9.out⟩
            case measure => simp [intOf, hk1]; omega
        · obtain rfl : k = d.home.length := by omega
          go_wp2_with fail
          go_ret
          exact ⟨rfl, HB.out⟩
end
end Go.Proofs.YtappgjdnfllblaaDoor
