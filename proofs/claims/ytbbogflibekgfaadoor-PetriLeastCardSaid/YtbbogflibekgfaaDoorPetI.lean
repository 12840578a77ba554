
/- Petri: Largest. -/
import Derived.Test.YtbbogflibekgfaaDoorPetH
set_option linter.unusedSimpArgs false
set_option linter.unusedVariables false
namespace Go.Proofs.YtbbogflibekgfaaDoor
open Go.RowKit Go.IntWalk Go.Shelf

theorem large_word {n : Int} {T : List Tr} (hok : netOK (n, T) = true) (trap : Bool) : ∀ e ∈ edgesN (n, T) trap, e.1 < 2 ^ 64 := fun e he => (edges_ok hok trap e he).1
theorem sweep_take (l : List Ed) (w k : Nat) (hk : k < l.length) : sweep (l.take (k + 1)) w = if l[k].2 &&& sweep (l.take k) w = 0 then clr (sweep (l.take k) w) l[k].1 else sweep (l.take k) w := by
  unfold sweep
  rw [List.take_add_one, List.getElem?_eq_getElem hk, List.foldl_append]
  rfl
/-- What Largest hands back. -/
def LargeL (n : Int) (T : List Tr) (trap : Bool) (s r : List Int) : Prop := if setB n s = true then ∃ v, LargeR (edgesN (n, T) trap) (wordN s) v ∧ r = listN v else r = []
set_option maxRecDepth 100000 in
set_option maxHeartbeats 4000000 in
theorem largest_any (n : Int) (A : Option Addr) (c : Nat) (T : List Tr) (B : Option Addr) (d : Nat) (s : List Int) (trap : Bool) (w : World) (hl : T.length ≤ maxLen) (h : SlR w w.heap.size A T) (hs : s.length ≤ maxLen) (hS : SlR w w.heap.size B s) (hok : netOK (n, T) = true) (hE : Env w) :
    Calls Tryd.prog 13 #[.agg #[.int .i64 n, .slice A T.length c], .slice B s.length d, .bool trap] w fun e w' => ∃ A' c' r, e = .returned (.slice A' r.length c') ∧ LargeL n T trap s r ∧ OwnI w' w.heap.size (.slice A' r.length c') r ∧ Below w.heap.size w w' := by
  obtain ⟨w1, hw1⟩ : ∃ w1, w1 = (w.alloc (Obj.cells #[.int .i64 n, .slice A T.length c] 24)) := ⟨_, rfl⟩
  have B1 : Below w.heap.size w w1 := by rw [hw1]; (repeat (first | exact Below.refl _ _ | assumption | refine below_drewN ?_ _ | refine Below.drew ?_ | refine Below.alloc ?_ (by (try simp); (try omega)) _ | refine Below.setCell ?_ (by (try simp); (try omega)) _))
  have x1 : Blk w1 w.heap.size 24 #[.int .i64 n, .slice A T.length c] := by rw [hw1]; exact Blk.new w _ _
  have y0 := x1.cell 0; have y1 := x1.cell 1; have z1 := x1.lt
  simp at y0 y1
  have HB1 := hid B1
  have HENV := hid hE
  have HPOS := hid hE.pos
  have HI := hid (isSet_any n B d s w1 hs ((hS.below B1).more B1.size))
  have HE := hid (edges_any n A c T trap w1 hl ((h.below B1).more B1.size) hok)
  have HW := hid (fun W (hW : Below w.heap.size w W) (hb : ∀ x ∈ s, 0 ≤ x ∧ x < 64) => word_any B d s W hs ((hS.below hW).more hW.size) hb)
  have HOK := hid (edges_ok hok trap)
  have h64 : n ≤ 64 := by
    simp only [netOK, Bool.and_eq_true, decide_eq_true_eq] at hok
    exact hok.1.1.2
  have hle := edgesN_len n T trap
  clear h hS x1 B1 hok hE
  cases hq : setB n s with
  | false =>
    rw [hq] at HI
    have HN := hid (show LargeL n T trap s [] by unfold LargeL; rw [hq]; simp)
    clear hq
    go_enter Tryd.func13, Tryd.ntmps13
    go_upto_region 1 with fail
    rw [← hw1]
    clear hw1
    go_wp2_with (go_at_call 38; refine HI.out.mono ?_; rintro e w2 ⟨rfl, rfl⟩)
    go_ret
    exact ⟨none, 0, [], rfl, HN.out, OwnI.nil _ _, HB1.out⟩
  | true =>
    rw [hq] at HI
    have hr := hid (show ∀ x ∈ s, 0 ≤ x ∧ x < 64 from fun x hx => by have := setB_mem hq x hx; omega)
    have hv := hid (word64 h64 hq)
    have HN := hid (show ∀ r v, LargeR (edgesN (n, T) trap) (wordN s) v → r = listN v → LargeL n T trap s r from fun r v h1 h2 => by unfold LargeL; rw [hq]; exact ⟨v, h1, h2⟩)
    clear hq
    go_enter Tryd.func13, Tryd.ntmps13
    go_upto_region 1 with fail
    rw [← hw1]
    clear hw1
    generalize edgesN (n, T) trap = L at *
    generalize wordN s = ws at *
    have hle' : L.length ≤ maxLen := by rw [hle]; exact hl
    clear hle
    have hlm : L.length ≤ 9223372036854775807 := by unfold maxLen at hle'; omega
    go_upto_region 4 with (first | (go_at_call 38; refine HI.out.mono ?_; rintro e w2 ⟨rfl, rfl⟩) | (go_at_call 27; refine HE.out.mono ?_; rintro e w3 ⟨v3, rfl, ho3, hB3⟩; obtain ⟨A3, c3, rfl, _, _, hs3⟩ := ho3.slr HOK.out; have HB3 := hid (HB1.out.trans (hB3.mono HB1.out.size)); have HS3 := hid hs3; clear ho3 hB3 hs3) | (go_at_call 39; refine (HW.out _ HB3.out hr.out).mono ?_; rintro e w4 ⟨rfl, rfl⟩))
    go_loopw [8] (fun x wr => ∃ u : Nat, x = .int .u64 (u : Nat) ∧ u < 2 ^ 64 ∧ Below w.heap.size w wr ∧ Below w3.heap.size w3 wr ∧ ∀ r, LargeR L u r → LargeR L ws r) (fun x _ => (intOf x).toNat)
    case atStart => exact ⟨ws, rfl, hv.out, HB3.out, Below.refl _ _, fun r h => h⟩
    case round =>
      obtain ⟨u, rfl, hu, hB, hB3, hR⟩ := hrel
      have HB := hid hB
      have HB3r := hid hB3
      have HR := hid hR
      have HCl := hid (closed_any A3 c3 L u wr hle' ((HS3.out.below hB3).more hB3.size) hu HOK.out)
      have HLi := hid (fun (v : Nat) (hv : v < 2 ^ 64) (W : World) (hW : Below w.heap.size w W) => list_any v W hv (HENV.out.below hW HPOS.out))
      clear hB hB3 hR
      by_cases h0 : u = 0
      · subst h0
        have HF := hid (HN.out _ 0 (HR.out 0 (LargeR.end_ (.inl rfl))) rfl)
        go_wp2_with (go_at_call 34; refine (HLi.out 0 (by omega) _ HB.out).mono ?_; rintro e w9 ⟨A9, c9, rfl, ho9, hB9, _⟩)
        have HO9 := hid ho9
        have HB9 := hid (HB.out.trans (hB9.mono HB.out.size))
        clear ho9 hB9
        go_wp2_with fail
        go_ret
        exact ⟨A9, c9, listN 0, rfl, HF.out, own_base HO9.out HB.out.size, HB9.out⟩
      · have h0i : ¬ ((u : Int) = 0) := by omega
        cases hq : closedN L u with
        | true =>
          rw [hq] at HCl
          have HF := hid (HN.out _ u (HR.out u (LargeR.end_ (.inr hq))) rfl)
          clear hq
          go_wp2_with (first | (go_at_call 37; refine HCl.out.mono ?_; rintro e w5 ⟨rfl, hB5⟩; have HB5 := hid (HB.out.trans (hB5.mono HB.out.size)); clear hB5) | (go_at_call 34; refine (HLi.out u hu _ HB5.out).mono ?_; rintro e w9 ⟨A9, c9, rfl, ho9, hB9, _⟩))
          have HO9 := hid ho9
          have HB9 := hid (HB5.out.trans (hB9.mono HB5.out.size))
          clear ho9 hB9
          go_wp2_with fail
          go_ret
          exact ⟨A9, c9, listN u, rfl, HF.out, own_base HO9.out HB5.out.size, HB9.out⟩
        | false =>
          rw [hq] at HCl
          have hany := hid (not_closed h0 hq)
          clear hq
          go_upto_region 6 with (go_at_call 37; refine HCl.out.mono ?_; rintro e w5 ⟨rfl, hB5⟩; have HB5 := hid (HB.out.trans (hB5.mono HB.out.size)); have HB35 := hid (HB3r.out.trans (hB5.mono HB3r.out.size)); clear hB5)
          have hsw := hid (fun k (hk : k < L.length) => sweep_take L u k hk)
          have hswl := hid (fun k => sweep_le (L.take k) u)
          go_loopw [8, 31] (fun x i wq => ∃ (k v : Nat), k ≤ L.length ∧ i = .int .i64 k ∧ x = .int .u64 (v : Nat) ∧ v = sweep (L.take k) u ∧ Below w.heap.size w wq ∧ Below w3.heap.size w3 wq) (fun _ i _ => L.length - (intOf i).toNat)
          case atStart => exact ⟨0, u, by omega, rfl, rfl, rfl, HB5.out, HB35.out⟩
          case round =>
            obtain ⟨k, v, hk, rfl, rfl, hve, hB, hB3⟩ := hrel
            have hv64 : v < 2 ^ 64 := by have := hswl.out k; omega
            have HVe := hid hve
            clear hve
            by_cases hlt : k < L.length
            · have hlt' : (k : Int) < L.length := by omega
              have hsl := (HS3.out.below hB3).more hB3.size
              obtain ⟨b, off, rfl, hb, g0, g1⟩ := hsl.ed hlt
              have hst := hid (hsw.out k hlt)
              have hok := HOK.out _ (List.getElem_mem hlt)
              have HBq := hid hB
              have HB3q := hid hB3
              clear hB hB3 hsl
              generalize L[k] = x at *
              obtain ⟨p, q⟩ := x
              simp only at *
              have hst2 := hid (show sweep (L.take (k + 1)) u = if q &&& v = 0 then clr v p else v by rw [hst.out, ← HVe.out])
              have b1 := bits_and_u64_nat q v (by simpa using hok.2) (by simpa using hv64)
              have b2 := u64_andNot_nat v p (by simpa using hv64) (by simpa using hok.1)
              clear hst
              by_cases hz : q &&& v = 0
              · have hzi : (((q &&& v : Nat) : Int) = 0) := by omega
                have hst3 := hid (show sweep (L.take (k + 1)) u = v &&& (18446744073709551615 - p) by rw [hst2.out, if_pos hz]; rfl)
                clear hst2
                go_wp2_with fail
                go_roundw
                case rel => exact ⟨k + 1, v &&& (18446744073709551615 - p), by omega, by go_num, by simp [b2], hst3.out.symm, (by have h1 := HBq.out; have := h1.size; (repeat (first | exact Below.refl _ _ | assumption | refine below_drewN ?_ _ | refine Below.drew ?_ | refine Below.alloc ?_ (by (try simp); (try omega)) _ | refine Below.setCell ?_ (by (try simp); (try omega)) _))), (by have h1 := HB3q.out; have := h1.size; (repeat (first | exact Below.refl _ _ | assumption | refine below_drewN ?_ _ | refine Below.drew ?_ | refine Below.alloc ?_ (by (try simp); (try omega)) _ | refine Below.setCell ?_ (by (try simp); (try omega)) _)))⟩
                case measure => simp [intOf]; omega
              · have hzi : ¬ (((q &&& v : Nat) : Int) = 0) := by omega
                have hst3 := hid (show sweep (L.take (k + 1)) u = v by rw [hst2.out, if_neg hz])
                clear hst2
                go_wp2_with fail
                go_roundw
                case rel => exact ⟨k + 1, v, by omega, by go_num, rfl, hst3.out.symm, (by have h1 := HBq.out; have := h1.size; (repeat (first | exact Below.refl _ _ | assumption | refine below_drewN ?_ _ | refine Below.drew ?_ | refine Below.alloc ?_ (by (try simp); (try omega)) _ | refine Below.setCell ?_ (by (try simp); (try omega)) _))), (by have h1 := HB3q.out; have := h1.size; (repeat (first | exact Below.refl _ _ | assumption | refine below_drewN ?_ _ | refine Below.drew ?_ | refine Below.alloc ?_ (by (try simp); (try omega)) _ | refine Below.setCell ?_ (by (try simp); (try omega)) _)))⟩
                case measure => simp [intOf]; omega
            · obtain rfl : k = L.length := by omega
              rw [List.take_length] at HVe
              have HBq := hid hB
              have HB3q := hid hB3
              clear hB hB3
              go_wp2_with fail
              go_roundw
              case rel => exact ⟨v, rfl, hv64, HBq.out, HB3q.out, fun r hr => HR.out r (by rw [HVe.out] at hr; exact hr.step hu (fun e he => (HOK.out e he).1))⟩
              case measure => have := sweep_lt hu (fun e he => (HOK.out e he).1) hany.out; have := HVe.out; simp [intOf]; omega
end Go.Proofs.YtbbogflibekgfaaDoor
