
/- LayoutTells: the walk (printed by gen_lytl.py). -/
import Derived.Test.YtgbgcmhmlnmklaaGreatDoorLytN2
import Derived.Test.YtgbgcmhmlnmklaaGreatDoorLytN0
import Derived.Test.YtgbgcmhmlnmklaaGreatDoorLayF
set_option linter.unusedSimpArgs false
set_option linter.unusedVariables false
namespace Go.Proofs.YtgbgcmhmlnmklaaGreatDoor
open Go.RowKit Go.IntWalk
section
variable {W H D : Int} {kind out r : List Int} {l : List Bool} {full : Bool}
theorem gets_iff {a b : Int} : getsN W H D kind out a b 6 = true ↔ ∃ d : Nat, d < 6 ∧ nextL W H D kind out a (d : Int) = some b := by
  unfold getsN
  rw [List.any_eq_true]
  constructor
  · rintro ⟨d, hd, h⟩
    exact ⟨d, List.mem_range.1 hd, of_decide_eq_true h⟩
  · rintro ⟨d, hd, h⟩
    exact ⟨d, List.mem_range.2 hd, decide_eq_true h⟩
theorem shifts_eq (hs : RS W H D) (hr : r.Pairwise (· < ·)) (hlr : r.length = l.length) {s : List Sh} (hp : s.Perm (allS W H D kind out r l full r.length))
    (hw : s.Pairwise (fun a b => ¬ (b.1 < a.1 ∨ b.1 = a.1 ∧ b.2 < a.2))) : s = betL W H D kind out r l full r.length r.length := by
  have hn : s.Nodup := hp.nodup_iff.2 (allS_nodup hs hr _)
  have hl : s.Pairwise ShLt := by
    refine (hw.and hn).imp ?_
    rintro ⟨a1, a2⟩ ⟨b1, b2⟩ ⟨h1, h2⟩
    have h3 : ¬ (a1 = b1 ∧ a2 = b2) := fun ⟨e1, e2⟩ => h2 (by rw [e1, e2])
    unfold ShLt
    simp only at h1 ⊢
    omega
  refine sorted_eq ((List.perm_ext_iff_of_nodup hn (sorted_nodup (betL_sorted _ _))).2 fun x => ?_) hl (betL_sorted _ _)
  rw [hp.mem_iff, allS_mem hr hlr rfl, betL_mem]
  constructor
  · rintro ⟨a, b, h⟩
    exact ⟨a, b, h.ar, h.br, h.eq, h.fa, h.fb, gets_iff.2 h.way⟩
  · rintro ⟨a, b, ha, hb, e, h1, h2, h3⟩
    exact ⟨a, b, e, by omega, by omega, ha, hb, h1, h2, gets_iff.1 h3⟩
end
/-- The program's shifts, as the reference has them. -/
theorem shiftsB_any (W H D : Int) (Ak Ao : Option Addr) (ck co : Nat) (kind out : List Int) (Ar Al : Option Addr) (cr cl : Nat) (r : List Int) (l : List Bool) (t : Int) (full : Bool) (w : World) (hF : RF W H D kind out) (hk : SlR w w.heap.size Ak kind) (ho : SlR w w.heap.size Ao out) (hr : SlR w w.heap.size Ar r) (hL : SlR w w.heap.size Al l)
    (hreg : r.Pairwise (· < ·)) (hlr : r.length = l.length) (h24 : l.length ≤ 24) :
    Calls Tryz.prog 52 #[.agg #[.int .i64 W, .int .i64 H, .int .i64 D, .slice Ak kind.length ck, .slice Ao out.length co], .slice Ar r.length cr, .agg #[.slice Al l.length cl, .int .i64 t], .bool full] w fun e w' => ∃ (A' : Option Addr) (c' : Nat), e = .returned (.slice A' (betL W H D kind out r l full r.length r.length).length c') ∧ SlR w' w'.heap.size A' (betL W H D kind out r l full r.length r.length) ∧ Below w.heap.size w w' := by
  refine (shiftsS_any W H D Ak Ao ck co kind out Ar Al cr cl r l t full w hF hk ho hr hL hreg hlr h24).mono ?_
  rintro e w' ⟨A', c', s, rfl, hp, hw, h3, h4⟩
  have e := shifts_eq hF.s hreg hlr hp hw
  subst e
  exact ⟨A', c', rfl, h3, h4⟩
end Go.Proofs.YtgbgcmhmlnmklaaGreatDoor
namespace Go.Proofs.YtgbgcmhmlnmklaaGreatDoor
open Go.RowKit Go.IntWalk
set_option maxRecDepth 100000 in
set_option maxHeartbeats 8000000 in
theorem between_any (W H D : Int) (Ak Ao : Option Addr) (ck co : Nat) (kind out : List Int) (Ar Al : Option Addr) (cr cl : Nat) (r : List Int) (l : List Bool) (t : Int) (full : Bool) (w : World) (hF : RF W H D kind out) (hk : SlR w w.heap.size Ak kind) (ho : SlR w w.heap.size Ao out) (hr : SlR w w.heap.size Ar r) (hL : SlR w w.heap.size Al l)
    (hlr : r.length = l.length) (h24 : l.length ≤ 24) :
    Calls Tryz.prog 53 #[.agg #[.int .i64 W, .int .i64 H, .int .i64 D, .slice Ak kind.length ck, .slice Ao out.length co], .slice Ar r.length cr, .agg #[.slice Al l.length cl, .int .i64 t], .bool full] w fun e w' => ∃ (A' : Option Addr) (c' : Nat), e = .returned (.slice A' (betL W H D kind out r l full r.length r.length).length c') ∧ SlR w' w'.heap.size A' (betL W H D kind out r l full r.length r.length) ∧ Below w.heap.size w w' := by
  obtain ⟨w1, hw1⟩ : ∃ w1, w1 = ((w.alloc (Obj.cells #[Value.int .i64 W, Value.int .i64 H, Value.int .i64 D, Value.slice Ak kind.length ck, Value.slice Ao out.length co] 24)).alloc (Obj.cells #[.slice Al l.length cl, .int .i64 t] 27)) := ⟨_, rfl⟩
  have B1 := hid (show Below w.heap.size w w1 by rw [hw1]; (repeat (first | exact Below.refl _ _ | assumption | refine below_drewN ?_ _ | refine Below.drew ?_ | refine Below.alloc ?_ (by (try simp); (try omega)) _ | refine Below.setCell ?_ (by (try simp); (try omega)) _)))
  have X1 := (show Blk w1 w.heap.size 24 #[Value.int .i64 W, Value.int .i64 H, Value.int .i64 D, Value.slice Ak kind.length ck, Value.slice Ao out.length co] by rw [hw1]; exact (Blk.new w _ _).alloc _)
  have X2 := (show Blk w1 (w.heap.size + 1) 27 #[.slice Al l.length cl, .int .i64 t] by rw [hw1]; exact Blk.new_at (by simp))
  have HX := hid (fun (W' : World) (hW : Below w1.heap.size w1 W') => And.intro (blk5 (X1.below hW X1.lt)) (And.intro (show W'.cell? ⟨w.heap.size + 1, 0, none⟩ = some (.slice Al l.length cl) from (bcell hW _ _ X2.lt).trans (by rw [X2.cell]; rfl)) (And.intro (Nat.lt_of_lt_of_le X1.lt hW.size) (Nat.lt_of_lt_of_le X2.lt hW.size))))
  have HR := hid (show SlR w1 w1.heap.size Ar r from ((hr.below B1.out).more B1.out.size))
  have HLs := hid (show SlR w1 w1.heap.size Al l from ((hL.below B1.out).more B1.out.size))
  have HG := hid (fun (c d : Int) (W' : World) (hW : Below w1.heap.size w1 W') => gets_any W H D Ak Ao ck co kind out c d W' hF ((hk.below (B1.out.trans (hW.mono B1.out.size))).more (B1.out.trans (hW.mono B1.out.size)).size) ((ho.below (B1.out.trans (hW.mono B1.out.size))).more (B1.out.trans (hW.mono B1.out.size)).size))
  have hlr2 := hid hlr
  have hr24 : r.length ≤ 24 := by omega
  clear hF hk ho hr hL X1 X2 hlr
  go_enter Tryz.func53, Tryz.ntmps53
  go_upto_region 1 with fail
  rw [← hw1]
  clear hw1
  go_upto_region 3 with fail
  go_loopw [9, 10] (fun v iv wr => ∃ i : Nat, i ≤ r.length ∧ iv = .int .i64 i ∧ shRK.Own wr w1.heap.size v (betL W H D kind out r l full r.length i) ∧ Below w1.heap.size w1 wr) (fun _ iv _ => r.length - (intOf iv).toNat)
  case atStart => exact ⟨0, by omega, rfl, RK.Own.nil, Below.refl _ _⟩
  case round =>
    obtain ⟨i, hi, rfl, ho, hB⟩ := hrel
    have HO := hid ho
    have HB := hid hB
    clear ho hB
    by_cases hlt : i < r.length
    case pos =>
      have hlt' : (i : Int) < r.length := by omega
      have hil : i < l.length := by have := hlr2.out; omega
      have hil' : (i : Int) < l.length := by omega
      obtain ⟨⟨k0, k1, k2, k3, k4⟩, l0, xz, lz⟩ := HX.out wr HB.out
      obtain ⟨br, or, hAr, hbr, hcr, -⟩ := HR.out.int hlt
      obtain ⟨bl, ol, hAl, hbl, hcl⟩ := HLs.out.bool hil
      have hri := hid (show r.getD i 0 = r[i] by rw [List.getD_eq_getElem?_getD, List.getElem?_eq_getElem hlt]; rfl)
      have hli := hid (show l.getD i (!full) = l[i] by rw [List.getD_eq_getElem?_getD, List.getElem?_eq_getElem hil]; rfl)
      have hsu := hid (betL_succ (W := W) (H := H) (D := D) (kind := kind) (out := out) (r := r) (l := l) (full := full) r.length i)
      have hal := hid (betL_len (W := W) (H := H) (D := D) (kind := kind) (out := out) (r := r) (l := l) (full := full) r.length i)
      have hrl := hid (fun m => betRow_len (W := W) (H := H) (D := D) (kind := kind) (out := out) (r := r) (l := l) (full := full) i m)
      have hrs := hid (fun m => betRow_succ (W := W) (H := H) (D := D) (kind := kind) (out := out) (r := r) (l := l) (full := full) i m)
      subst hAr hAl
      have hm24 := hid (show i * r.length ≤ 24 * 24 from Nat.mul_le_mul (by omega) hr24)
      generalize betL W H D kind out r l full r.length i = AL at *
      go_upto_region 6 with fail
      clear k0 k1 k2 k3 k4 l0
      go_loopw [9, 11] (fun v dv wr => ∃ d : Nat, d ≤ r.length ∧ dv = .int .i64 d ∧ shRK.Own wr w1.heap.size v (AL ++ betRow W H D kind out r l full i d) ∧ Below w1.heap.size w1 wr) (fun _ dv _ => r.length - (intOf dv).toNat)
      case atStart => exact ⟨0, by omega, rfl, by simpa [betRow] using HO.out, HB.out⟩
      case round =>
        clear HO HB xz lz
        obtain ⟨d, hd, rfl, ho, hB⟩ := hrel
        have HO := hid ho
        have HB := hid hB
        clear ho hB
        by_cases hld : d < r.length
        case pos =>
          have hld' : (d : Int) < r.length := by omega
          have hdl : d < l.length := by have := hlr2.out; omega
          have hdl' : (d : Int) < l.length := by omega
          obtain ⟨⟨k0, k1, k2, k3, k4⟩, l0, xz, lz⟩ := HX.out wr HB.out
          have hcr2 := HR.out.int_at hld
          have hcl2 := HLs.out.bool_at hdl
          have hrk := hid (show r.getD d 0 = r[d] by rw [List.getD_eq_getElem?_getD, List.getElem?_eq_getElem hld]; rfl)
          have hlk := hid (show l.getD d full = l[d] by rw [List.getD_eq_getElem?_getD, List.getElem?_eq_getElem hdl]; rfl)
          have hrd := hrs.out d
          rw [hri.out, hli.out, hrk.out, hlk.out] at hrd
          have HGd := hid (HG.out r[i] r[d])
          have hrl6 := hid (hrl.out d)
          generalize getsN W H D kind out r[i] r[d] 6 = gv at *
          generalize l[i] = fi at *
          generalize l[d] = fd at *
          generalize r[i] = ri at *
          generalize r[d] = rd at *
          have HSF := hid (fun (wq : World) (hq : Below w1.heap.size w1 wq) => And.intro (HX.out wq hq) (And.intro ((bcell hq _ _ hbr).trans hcr) (And.intro ((bcell hq _ _ hbr).trans hcr2) (And.intro ((bcell hq _ _ hbl).trans hcl) ((bcell hq _ _ hbl).trans hcl2)))))
          have HRD := hid hrd
          clear hrd hri hli hrk hlk
          go_upto_region 8 with fail
          have BD := hid HB.out.drew
          have HOd := hid HO.out.drew
          refine wpIn_wide.1 (wpIn_region_S (n := 0) (fun wq => Below w1.heap.size w1 wq) [] (by kernel_rfl) BD.out (fun hHeld => ?_))
          generalize wr.drew = wd at *
          clear k0 k1 k2 k3 k4 l0 hcr2 hcl2
          by_cases hff : fi = full
          case neg =>
            have hrow := hid (show betRow W H D kind out r l full i (d + 1) = betRow W H D kind out r l full i d by rw [HRD.out, if_neg (fun h => hff h.1), List.append_nil])
            have hffb : (fi == full) = false := by cases fi <;> cases full <;> simp at hff ⊢
            as_aux_lemma =>
              refine wpAnyG_pure 0 (v := ?_) (fun _ => trivial) (by simp only [List.getElem?_toArray, List.getElem?_cons_succ, List.getElem?_cons_zero]; rfl) (by kernel_rfl) (fun _ _ _ _ _ h => h) ⟨(by rfl), (by intro c h; cases h), ?_⟩ hHeld ?_
              rotate_left
              focus (intro wS hSw; (try replace hSw := HSF.out wS hSw); (try dsimp only at hSw); go_simp; (try with_reducible rfl))
              (try simp only [Act.put, List.setIfInBounds_toArray, List.set_cons_zero, List.set_cons_succ])
              refine wpAnyG_take 1 (v := ?_) (fun _ => trivial) (by simp only [List.getElem?_toArray, List.getElem?_cons_succ, List.getElem?_cons_zero]; rfl) (by kernel_rfl) (fun _ _ _ _ _ h => h) ⟨(by rfl), (by intro c h; cases h), ?_⟩ hHeld ?_
              rotate_left
              focus (intro wS hSw; (try replace hSw := HSF.out wS hSw); (try dsimp only at hSw); go_simp; (try with_reducible rfl))
              (try simp only [Act.put, List.setIfInBounds_toArray, List.set_cons_zero, List.set_cons_succ])
              refine wpAnyG_pure 2 (v := ?_) (fun _ => trivial) (by simp only [List.getElem?_toArray, List.getElem?_cons_succ, List.getElem?_cons_zero]; rfl) (by kernel_rfl) (fun _ _ _ _ _ h => h) ⟨(by rfl), (by intro c h; cases h), ?_⟩ hHeld ?_
              rotate_left
              focus (intro wS hSw; (try replace hSw := HSF.out wS hSw); (try dsimp only at hSw); go_simp; (try with_reducible rfl))
              (try simp only [Act.put, List.setIfInBounds_toArray, List.set_cons_zero, List.set_cons_succ])
              refine wpAnyG_pure 3 (v := ?_) (fun _ => trivial) (by simp only [List.getElem?_toArray, List.getElem?_cons_succ, List.getElem?_cons_zero]; rfl) (by kernel_rfl) (fun _ _ _ _ _ h => h) ⟨(by rfl), (by intro c h; cases h), ?_⟩ hHeld ?_
              rotate_left
              focus (intro wS hSw; (try replace hSw := HSF.out wS hSw); (try dsimp only at hSw); go_simp; (try with_reducible rfl))
              (try simp only [Act.put, List.setIfInBounds_toArray, List.set_cons_zero, List.set_cons_succ])
              refine wpAnyG_take 4 (v := ?_) (fun _ => trivial) (by simp only [List.getElem?_toArray, List.getElem?_cons_succ, List.getElem?_cons_zero]; rfl) (by kernel_rfl) (fun _ _ _ _ _ h => h) ⟨(by rfl), (by intro c h; cases h), ?_⟩ hHeld ?_
              rotate_left
              focus (intro wS hSw; (try replace hSw := HSF.out wS hSw); (try dsimp only at hSw); go_simp; (try with_reducible rfl))
              (try simp only [Act.put, List.setIfInBounds_toArray, List.set_cons_zero, List.set_cons_succ])
              refine wpAnyG_pure 5 (v := ?_) (fun _ => trivial) (by simp only [List.getElem?_toArray, List.getElem?_cons_succ, List.getElem?_cons_zero]; rfl) (by kernel_rfl) (fun _ _ _ _ _ h => h) ⟨(by rfl), (by intro c h; cases h), ?_⟩ hHeld ?_
              rotate_left
              focus (intro wS hSw; (try replace hSw := HSF.out wS hSw); (try dsimp only at hSw); go_simp; (try with_reducible rfl))
              (try simp only [Act.put, List.setIfInBounds_toArray, List.set_cons_zero, List.set_cons_succ])
              refine wpAnyG_pure 6 (v := ?_) (fun _ => trivial) (by simp only [List.getElem?_toArray, List.getElem?_cons_succ, List.getElem?_cons_zero]; rfl) (by kernel_rfl) (fun _ _ _ _ _ h => h) ⟨(by rfl), (by intro c h; cases h), ?_⟩ hHeld ?_
              rotate_left
              focus (intro wS hSw; (try replace hSw := HSF.out wS hSw); (try dsimp only at hSw); go_simp; (try with_reducible rfl))
              (try simp only [Act.put, List.setIfInBounds_toArray, List.set_cons_zero, List.set_cons_succ])
              refine wpAnyG_pure 7 (v := ?_) (fun _ => trivial) (by simp only [List.getElem?_toArray, List.getElem?_cons_succ, List.getElem?_cons_zero]; rfl) (by kernel_rfl) (fun _ _ _ _ _ h => h) ⟨(by rfl), (by intro c h; cases h), ?_⟩ hHeld ?_
              rotate_left
              focus (intro wS hSw; (try replace hSw := HSF.out wS hSw); (try dsimp only at hSw); go_simp; (try with_reducible rfl))
              (try simp only [Act.put, List.setIfInBounds_toArray, List.set_cons_zero, List.set_cons_succ])
              refine wpAnyG_skip 8 (fun _ => trivial) (by simp only [List.getElem?_toArray, List.getElem?_cons_succ, List.getElem?_cons_zero]; rfl) (by kernel_rfl) (fun _ _ _ _ _ h => h) (by rfl) hHeld ?_
              (try simp only [Act.put, List.setIfInBounds_toArray, List.set_cons_zero, List.set_cons_succ])
              refine wpAnyG_skip 9 (fun _ => trivial) (by simp only [List.getElem?_toArray, List.getElem?_cons_succ, List.getElem?_cons_zero]; rfl) (by kernel_rfl) (fun _ _ _ _ _ h => h) (by rfl) hHeld ?_
              (try simp only [Act.put, List.setIfInBounds_toArray, List.set_cons_zero, List.set_cons_succ])
              refine wpAnyG_skip 10 (fun _ => trivial) (by simp only [List.getElem?_toArray, List.getElem?_cons_succ, List.getElem?_cons_zero]; rfl) (by kernel_rfl) (fun _ _ _ _ _ h => h) (by rfl) hHeld ?_
              (try simp only [Act.put, List.setIfInBounds_toArray, List.set_cons_zero, List.set_cons_succ])
              refine wpAnyG_skip 11 (fun _ => trivial) (by simp only [List.getElem?_toArray, List.getElem?_cons_succ, List.getElem?_cons_zero]; rfl) (by kernel_rfl) (fun _ _ _ _ _ h => h) (by rfl) hHeld ?_
              (try simp only [Act.put, List.setIfInBounds_toArray, List.set_cons_zero, List.set_cons_succ])
              refine wpAnyG_skip 12 (fun _ => trivial) (by simp only [List.getElem?_toArray, List.getElem?_cons_succ, List.getElem?_cons_zero]; rfl) (by kernel_rfl) (fun _ _ _ _ _ h => h) (by rfl) hHeld ?_
              (try simp only [Act.put, List.setIfInBounds_toArray, List.set_cons_zero, List.set_cons_succ])
              refine wpAnyG_skip 13 (fun _ => trivial) (by simp only [List.getElem?_toArray, List.getElem?_cons_succ, List.getElem?_cons_zero]; rfl) (by kernel_rfl) (fun _ _ _ _ _ h => h) (by rfl) hHeld ?_
              (try simp only [Act.put, List.setIfInBounds_toArray, List.set_cons_zero, List.set_cons_succ])
              refine wpAnyG_skip 14 (fun _ => trivial) (by simp only [List.getElem?_toArray, List.getElem?_cons_succ, List.getElem?_cons_zero]; rfl) (by kernel_rfl) (fun _ _ _ _ _ h => h) (by rfl) hHeld ?_
              (try simp only [Act.put, List.setIfInBounds_toArray, List.set_cons_zero, List.set_cons_succ])
              refine wpAnyG_pure 15 (v := ?_) (fun _ => trivial) (by simp only [List.getElem?_toArray, List.getElem?_cons_succ, List.getElem?_cons_zero]; rfl) (by kernel_rfl) (fun _ _ _ _ _ h => h) ⟨(by rfl), (by intro c h; cases h), ?_⟩ hHeld ?_
              rotate_left
              focus (intro wS hSw; (try replace hSw := HSF.out wS hSw); (try dsimp only at hSw); go_simp; (try with_reducible rfl))
              (try simp only [Act.put, List.setIfInBounds_toArray, List.set_cons_zero, List.set_cons_succ])
              refine wpAnyG_pure 16 (v := ?_) (fun _ => trivial) (by simp only [List.getElem?_toArray, List.getElem?_cons_succ, List.getElem?_cons_zero]; rfl) (by kernel_rfl) (fun _ _ _ _ _ h => h) ⟨(by rfl), (by intro c h; cases h), ?_⟩ hHeld ?_
              rotate_left
              focus (intro wS hSw; (try replace hSw := HSF.out wS hSw); (try dsimp only at hSw); go_simp; (try with_reducible rfl))
              (try simp only [Act.put, List.setIfInBounds_toArray, List.set_cons_zero, List.set_cons_succ])
              refine wpAnyG_skip 17 (fun _ => trivial) (by simp only [List.getElem?_toArray, List.getElem?_cons_succ, List.getElem?_cons_zero]; rfl) (by kernel_rfl) (fun _ _ _ _ _ h => h) (by rfl) hHeld ?_
              (try simp only [Act.put, List.setIfInBounds_toArray, List.set_cons_zero, List.set_cons_succ])
              refine wpAnyG_skip 18 (fun _ => trivial) (by simp only [List.getElem?_toArray, List.getElem?_cons_succ, List.getElem?_cons_zero]; rfl) (by kernel_rfl) (fun _ _ _ _ _ h => h) (by rfl) hHeld ?_
              (try simp only [Act.put, List.setIfInBounds_toArray, List.set_cons_zero, List.set_cons_succ])
              refine wpAnyG_skip 19 (fun _ => trivial) (by simp only [List.getElem?_toArray, List.getElem?_cons_succ, List.getElem?_cons_zero]; rfl) (by kernel_rfl) (fun _ _ _ _ _ h => h) (by rfl) hHeld ?_
              (try simp only [Act.put, List.setIfInBounds_toArray, List.set_cons_zero, List.set_cons_succ])
              refine wpAnyG_skip 20 (fun _ => trivial) (by simp only [List.getElem?_toArray, List.getElem?_cons_succ, List.getElem?_cons_zero]; rfl) (by kernel_rfl) (fun _ _ _ _ _ h => h) (by rfl) hHeld ?_
              (try simp only [Act.put, List.setIfInBounds_toArray, List.set_cons_zero, List.set_cons_succ])
              refine wpAnyG_skip 21 (fun _ => trivial) (by simp only [List.getElem?_toArray, List.getElem?_cons_succ, List.getElem?_cons_zero]; rfl) (by kernel_rfl) (fun _ _ _ _ _ h => h) (by rfl) hHeld ?_
              (try simp only [Act.put, List.setIfInBounds_toArray, List.set_cons_zero, List.set_cons_succ])
              refine wpAnyG_skip 22 (fun _ => trivial) (by simp only [List.getElem?_toArray, List.getElem?_cons_succ, List.getElem?_cons_zero]; rfl) (by kernel_rfl) (fun _ _ _ _ _ h => h) (by rfl) hHeld ?_
              (try simp only [Act.put, List.setIfInBounds_toArray, List.set_cons_zero, List.set_cons_succ])
              refine wpAnyG_skip 23 (fun _ => trivial) (by simp only [List.getElem?_toArray, List.getElem?_cons_succ, List.getElem?_cons_zero]; rfl) (by kernel_rfl) (fun _ _ _ _ _ h => h) (by rfl) hHeld ?_
              (try simp only [Act.put, List.setIfInBounds_toArray, List.set_cons_zero, List.set_cons_succ])
              refine wpAnyG_skip 24 (fun _ => trivial) (by simp only [List.getElem?_toArray, List.getElem?_cons_succ, List.getElem?_cons_zero]; rfl) (by kernel_rfl) (fun _ _ _ _ _ h => h) (by rfl) hHeld ?_
              (try simp only [Act.put, List.setIfInBounds_toArray, List.set_cons_zero, List.set_cons_succ])
              refine wpAnyG_skip 25 (fun _ => trivial) (by simp only [List.getElem?_toArray, List.getElem?_cons_succ, List.getElem?_cons_zero]; rfl) (by kernel_rfl) (fun _ _ _ _ _ h => h) (by rfl) hHeld ?_
              (try simp only [Act.put, List.setIfInBounds_toArray, List.set_cons_zero, List.set_cons_succ])
              refine wpAnyG_skip 26 (fun _ => trivial) (by simp only [List.getElem?_toArray, List.getElem?_cons_succ, List.getElem?_cons_zero]; rfl) (by kernel_rfl) (fun _ _ _ _ _ h => h) (by rfl) hHeld ?_
              (try simp only [Act.put, List.setIfInBounds_toArray, List.set_cons_zero, List.set_cons_succ])
              refine wpAnyG_pure 27 (v := ?_) (fun _ => trivial) (by simp only [List.getElem?_toArray, List.getElem?_cons_succ, List.getElem?_cons_zero]; rfl) (by kernel_rfl) (fun _ _ _ _ _ h => h) ⟨(by rfl), (by intro c h; cases h), ?_⟩ hHeld ?_
              rotate_left
              focus (intro wS hSw; (try replace hSw := HSF.out wS hSw); (try dsimp only at hSw); go_simp; (try with_reducible rfl))
              (try simp only [Act.put, List.setIfInBounds_toArray, List.set_cons_zero, List.set_cons_succ])
              refine wpAnyS_done (by kernel_rfl) ?_
              clear hHeld HSF
              go_wp2_with fail
              go_roundw
              case rel => exact ⟨d + 1, by omega, by go_num, by rw [hrow.out]; exact HOd.out, BD.out⟩
              case measure => simp [intOf]; omega
          subst hff
          by_cases hfd : fd = fi
          case pos =>
            have hrow := hid (show betRow W H D kind out r l fi i (d + 1) = betRow W H D kind out r l fi i d by rw [HRD.out, if_neg (fun h => h.2.1 hfd), List.append_nil])
            subst hfd
            as_aux_lemma =>
              refine wpAnyG_pure 0 (v := ?_) (fun _ => trivial) (by simp only [List.getElem?_toArray, List.getElem?_cons_succ, List.getElem?_cons_zero]; rfl) (by kernel_rfl) (fun _ _ _ _ _ h => h) ⟨(by rfl), (by intro c h; cases h), ?_⟩ hHeld ?_
              rotate_left
              focus (intro wS hSw; (try replace hSw := HSF.out wS hSw); (try dsimp only at hSw); go_simp; (try with_reducible rfl))
              (try simp only [Act.put, List.setIfInBounds_toArray, List.set_cons_zero, List.set_cons_succ])
              refine wpAnyG_take 1 (v := ?_) (fun _ => trivial) (by simp only [List.getElem?_toArray, List.getElem?_cons_succ, List.getElem?_cons_zero]; rfl) (by kernel_rfl) (fun _ _ _ _ _ h => h) ⟨(by rfl), (by intro c h; cases h), ?_⟩ hHeld ?_
              rotate_left
              focus (intro wS hSw; (try replace hSw := HSF.out wS hSw); (try dsimp only at hSw); go_simp; (try with_reducible rfl))
              (try simp only [Act.put, List.setIfInBounds_toArray, List.set_cons_zero, List.set_cons_succ])
              refine wpAnyG_pure 2 (v := ?_) (fun _ => trivial) (by simp only [List.getElem?_toArray, List.getElem?_cons_succ, List.getElem?_cons_zero]; rfl) (by kernel_rfl) (fun _ _ _ _ _ h => h) ⟨(by rfl), (by intro c h; cases h), ?_⟩ hHeld ?_
              rotate_left
              focus (intro wS hSw; (try replace hSw := HSF.out wS hSw); (try dsimp only at hSw); go_simp; (try with_reducible rfl))
              (try simp only [Act.put, List.setIfInBounds_toArray, List.set_cons_zero, List.set_cons_succ])
              refine wpAnyG_pure 3 (v := ?_) (fun _ => trivial) (by simp only [List.getElem?_toArray, List.getElem?_cons_succ, List.getElem?_cons_zero]; rfl) (by kernel_rfl) (fun _ _ _ _ _ h => h) ⟨(by rfl), (by intro c h; cases h), ?_⟩ hHeld ?_
              rotate_left
              focus (intro wS hSw; (try replace hSw := HSF.out wS hSw); (try dsimp only at hSw); go_simp; (try with_reducible rfl))
              (try simp only [Act.put, List.setIfInBounds_toArray, List.set_cons_zero, List.set_cons_succ])
              refine wpAnyG_take 4 (v := ?_) (fun _ => trivial) (by simp only [List.getElem?_toArray, List.getElem?_cons_succ, List.getElem?_cons_zero]; rfl) (by kernel_rfl) (fun _ _ _ _ _ h => h) ⟨(by rfl), (by intro c h; cases h), ?_⟩ hHeld ?_
              rotate_left
              focus (intro wS hSw; (try replace hSw := HSF.out wS hSw); (try dsimp only at hSw); go_simp; (try with_reducible rfl))
              (try simp only [Act.put, List.setIfInBounds_toArray, List.set_cons_zero, List.set_cons_succ])
              refine wpAnyG_pure 5 (v := ?_) (fun _ => trivial) (by simp only [List.getElem?_toArray, List.getElem?_cons_succ, List.getElem?_cons_zero]; rfl) (by kernel_rfl) (fun _ _ _ _ _ h => h) ⟨(by rfl), (by intro c h; cases h), ?_⟩ hHeld ?_
              rotate_left
              focus (intro wS hSw; (try replace hSw := HSF.out wS hSw); (try dsimp only at hSw); go_simp; (try with_reducible rfl))
              (try simp only [Act.put, List.setIfInBounds_toArray, List.set_cons_zero, List.set_cons_succ])
              refine wpAnyG_pure 6 (v := ?_) (fun _ => trivial) (by simp only [List.getElem?_toArray, List.getElem?_cons_succ, List.getElem?_cons_zero]; rfl) (by kernel_rfl) (fun _ _ _ _ _ h => h) ⟨(by rfl), (by intro c h; cases h), ?_⟩ hHeld ?_
              rotate_left
              focus (intro wS hSw; (try replace hSw := HSF.out wS hSw); (try dsimp only at hSw); go_simp; (try with_reducible rfl))
              (try simp only [Act.put, List.setIfInBounds_toArray, List.set_cons_zero, List.set_cons_succ])
              refine wpAnyG_pure 7 (v := ?_) (fun _ => trivial) (by simp only [List.getElem?_toArray, List.getElem?_cons_succ, List.getElem?_cons_zero]; rfl) (by kernel_rfl) (fun _ _ _ _ _ h => h) ⟨(by rfl), (by intro c h; cases h), ?_⟩ hHeld ?_
              rotate_left
              focus (intro wS hSw; (try replace hSw := HSF.out wS hSw); (try dsimp only at hSw); go_simp; (try with_reducible rfl))
              (try simp only [Act.put, List.setIfInBounds_toArray, List.set_cons_zero, List.set_cons_succ])
              refine wpAnyG_pure 8 (v := ?_) (fun _ => trivial) (by simp only [List.getElem?_toArray, List.getElem?_cons_succ, List.getElem?_cons_zero]; rfl) (by kernel_rfl) (fun _ _ _ _ _ h => h) ⟨(by rfl), (by intro c h; cases h), ?_⟩ hHeld ?_
              rotate_left
              focus (intro wS hSw; (try replace hSw := HSF.out wS hSw); (try dsimp only at hSw); go_simp; (try with_reducible rfl))
              (try simp only [Act.put, List.setIfInBounds_toArray, List.set_cons_zero, List.set_cons_succ])
              refine wpAnyG_take 9 (v := ?_) (fun _ => trivial) (by simp only [List.getElem?_toArray, List.getElem?_cons_succ, List.getElem?_cons_zero]; rfl) (by kernel_rfl) (fun _ _ _ _ _ h => h) ⟨(by rfl), (by intro c h; cases h), ?_⟩ hHeld ?_
              rotate_left
              focus (intro wS hSw; (try replace hSw := HSF.out wS hSw); (try dsimp only at hSw); go_simp; (try with_reducible rfl))
              (try simp only [Act.put, List.setIfInBounds_toArray, List.set_cons_zero, List.set_cons_succ])
              refine wpAnyG_pure 10 (v := ?_) (fun _ => trivial) (by simp only [List.getElem?_toArray, List.getElem?_cons_succ, List.getElem?_cons_zero]; rfl) (by kernel_rfl) (fun _ _ _ _ _ h => h) ⟨(by rfl), (by intro c h; cases h), ?_⟩ hHeld ?_
              rotate_left
              focus (intro wS hSw; (try replace hSw := HSF.out wS hSw); (try dsimp only at hSw); go_simp; (try with_reducible rfl))
              (try simp only [Act.put, List.setIfInBounds_toArray, List.set_cons_zero, List.set_cons_succ])
              refine wpAnyG_pure 11 (v := ?_) (fun _ => trivial) (by simp only [List.getElem?_toArray, List.getElem?_cons_succ, List.getElem?_cons_zero]; rfl) (by kernel_rfl) (fun _ _ _ _ _ h => h) ⟨(by rfl), (by intro c h; cases h), ?_⟩ hHeld ?_
              rotate_left
              focus (intro wS hSw; (try replace hSw := HSF.out wS hSw); (try dsimp only at hSw); go_simp; (try with_reducible rfl))
              (try simp only [Act.put, List.setIfInBounds_toArray, List.set_cons_zero, List.set_cons_succ])
              refine wpAnyG_take 12 (v := ?_) (fun _ => trivial) (by simp only [List.getElem?_toArray, List.getElem?_cons_succ, List.getElem?_cons_zero]; rfl) (by kernel_rfl) (fun _ _ _ _ _ h => h) ⟨(by rfl), (by intro c h; cases h), ?_⟩ hHeld ?_
              rotate_left
              focus (intro wS hSw; (try replace hSw := HSF.out wS hSw); (try dsimp only at hSw); go_simp; (try with_reducible rfl))
              (try simp only [Act.put, List.setIfInBounds_toArray, List.set_cons_zero, List.set_cons_succ])
              refine wpAnyG_pure 13 (v := ?_) (fun _ => trivial) (by simp only [List.getElem?_toArray, List.getElem?_cons_succ, List.getElem?_cons_zero]; rfl) (by kernel_rfl) (fun _ _ _ _ _ h => h) ⟨(by rfl), (by intro c h; cases h), ?_⟩ hHeld ?_
              rotate_left
              focus (intro wS hSw; (try replace hSw := HSF.out wS hSw); (try dsimp only at hSw); go_simp; (try with_reducible rfl))
              (try simp only [Act.put, List.setIfInBounds_toArray, List.set_cons_zero, List.set_cons_succ])
              refine wpAnyG_pure 14 (v := ?_) (fun _ => trivial) (by simp only [List.getElem?_toArray, List.getElem?_cons_succ, List.getElem?_cons_zero]; rfl) (by kernel_rfl) (fun _ _ _ _ _ h => h) ⟨(by rfl), (by intro c h; cases h), ?_⟩ hHeld ?_
              rotate_left
              focus (intro wS hSw; (try replace hSw := HSF.out wS hSw); (try dsimp only at hSw); go_simp; (try with_reducible rfl))
              (try simp only [Act.put, List.setIfInBounds_toArray, List.set_cons_zero, List.set_cons_succ])
              refine wpAnyG_pure 15 (v := ?_) (fun _ => trivial) (by simp only [List.getElem?_toArray, List.getElem?_cons_succ, List.getElem?_cons_zero]; rfl) (by kernel_rfl) (fun _ _ _ _ _ h => h) ⟨(by rfl), (by intro c h; cases h), ?_⟩ hHeld ?_
              rotate_left
              focus (intro wS hSw; (try replace hSw := HSF.out wS hSw); (try dsimp only at hSw); go_simp; (try with_reducible rfl))
              (try simp only [Act.put, List.setIfInBounds_toArray, List.set_cons_zero, List.set_cons_succ])
              refine wpAnyG_pure 16 (v := ?_) (fun _ => trivial) (by simp only [List.getElem?_toArray, List.getElem?_cons_succ, List.getElem?_cons_zero]; rfl) (by kernel_rfl) (fun _ _ _ _ _ h => h) ⟨(by rfl), (by intro c h; cases h), ?_⟩ hHeld ?_
              rotate_left
              focus (intro wS hSw; (try replace hSw := HSF.out wS hSw); (try dsimp only at hSw); go_simp; (try with_reducible rfl))
              (try simp only [Act.put, List.setIfInBounds_toArray, List.set_cons_zero, List.set_cons_succ])
              refine wpAnyG_skip 17 (fun _ => trivial) (by simp only [List.getElem?_toArray, List.getElem?_cons_succ, List.getElem?_cons_zero]; rfl) (by kernel_rfl) (fun _ _ _ _ _ h => h) (by rfl) hHeld ?_
              (try simp only [Act.put, List.setIfInBounds_toArray, List.set_cons_zero, List.set_cons_succ])
              refine wpAnyG_skip 18 (fun _ => trivial) (by simp only [List.getElem?_toArray, List.getElem?_cons_succ, List.getElem?_cons_zero]; rfl) (by kernel_rfl) (fun _ _ _ _ _ h => h) (by rfl) hHeld ?_
              (try simp only [Act.put, List.setIfInBounds_toArray, List.set_cons_zero, List.set_cons_succ])
              refine wpAnyG_skip 19 (fun _ => trivial) (by simp only [List.getElem?_toArray, List.getElem?_cons_succ, List.getElem?_cons_zero]; rfl) (by kernel_rfl) (fun _ _ _ _ _ h => h) (by rfl) hHeld ?_
              (try simp only [Act.put, List.setIfInBounds_toArray, List.set_cons_zero, List.set_cons_succ])
              refine wpAnyG_skip 20 (fun _ => trivial) (by simp only [List.getElem?_toArray, List.getElem?_cons_succ, List.getElem?_cons_zero]; rfl) (by kernel_rfl) (fun _ _ _ _ _ h => h) (by rfl) hHeld ?_
              (try simp only [Act.put, List.setIfInBounds_toArray, List.set_cons_zero, List.set_cons_succ])
              refine wpAnyG_skip 21 (fun _ => trivial) (by simp only [List.getElem?_toArray, List.getElem?_cons_succ, List.getElem?_cons_zero]; rfl) (by kernel_rfl) (fun _ _ _ _ _ h => h) (by rfl) hHeld ?_
              (try simp only [Act.put, List.setIfInBounds_toArray, List.set_cons_zero, List.set_cons_succ])
              refine wpAnyG_skip 22 (fun _ => trivial) (by simp only [List.getElem?_toArray, List.getElem?_cons_succ, List.getElem?_cons_zero]; rfl) (by kernel_rfl) (fun _ _ _ _ _ h => h) (by rfl) hHeld ?_
              (try simp only [Act.put, List.setIfInBounds_toArray, List.set_cons_zero, List.set_cons_succ])
              refine wpAnyG_skip 23 (fun _ => trivial) (by simp only [List.getElem?_toArray, List.getElem?_cons_succ, List.getElem?_cons_zero]; rfl) (by kernel_rfl) (fun _ _ _ _ _ h => h) (by rfl) hHeld ?_
              (try simp only [Act.put, List.setIfInBounds_toArray, List.set_cons_zero, List.set_cons_succ])
              refine wpAnyG_skip 24 (fun _ => trivial) (by simp only [List.getElem?_toArray, List.getElem?_cons_succ, List.getElem?_cons_zero]; rfl) (by kernel_rfl) (fun _ _ _ _ _ h => h) (by rfl) hHeld ?_
              (try simp only [Act.put, List.setIfInBounds_toArray, List.set_cons_zero, List.set_cons_succ])
              refine wpAnyG_skip 25 (fun _ => trivial) (by simp only [List.getElem?_toArray, List.getElem?_cons_succ, List.getElem?_cons_zero]; rfl) (by kernel_rfl) (fun _ _ _ _ _ h => h) (by rfl) hHeld ?_
              (try simp only [Act.put, List.setIfInBounds_toArray, List.set_cons_zero, List.set_cons_succ])
              refine wpAnyG_skip 26 (fun _ => trivial) (by simp only [List.getElem?_toArray, List.getElem?_cons_succ, List.getElem?_cons_zero]; rfl) (by kernel_rfl) (fun _ _ _ _ _ h => h) (by rfl) hHeld ?_
              (try simp only [Act.put, List.setIfInBounds_toArray, List.set_cons_zero, List.set_cons_succ])
              refine wpAnyG_pure 27 (v := ?_) (fun _ => trivial) (by simp only [List.getElem?_toArray, List.getElem?_cons_succ, List.getElem?_cons_zero]; rfl) (by kernel_rfl) (fun _ _ _ _ _ h => h) ⟨(by rfl), (by intro c h; cases h), ?_⟩ hHeld ?_
              rotate_left
              focus (intro wS hSw; (try replace hSw := HSF.out wS hSw); (try dsimp only at hSw); go_simp; (try with_reducible rfl))
              (try simp only [Act.put, List.setIfInBounds_toArray, List.set_cons_zero, List.set_cons_succ])
              refine wpAnyS_done (by kernel_rfl) ?_
              clear hHeld HSF
              go_wp2_with fail
              go_roundw
              case rel => exact ⟨d + 1, by omega, by go_num, by rw [hrow.out]; exact HOd.out, BD.out⟩
              case measure => simp [intOf]; omega
          have hfdb : (!fd == fi) = true := by cases fi <;> cases fd <;> simp at hfd ⊢
          refine wpAnyG_pure 0 (v := ?_) (fun _ => trivial) (by simp only [List.getElem?_toArray, List.getElem?_cons_succ, List.getElem?_cons_zero]; rfl) (by kernel_rfl) (fun _ _ _ _ _ h => h) ⟨(by rfl), (by intro c h; cases h), ?_⟩ hHeld ?_
          rotate_left
          focus (intro wS hSw; (try replace hSw := HSF.out wS hSw); (try dsimp only at hSw); go_simp; (try with_reducible rfl))
          (try simp only [Act.put, List.setIfInBounds_toArray, List.set_cons_zero, List.set_cons_succ])
          refine wpAnyG_take 1 (v := ?_) (fun _ => trivial) (by simp only [List.getElem?_toArray, List.getElem?_cons_succ, List.getElem?_cons_zero]; rfl) (by kernel_rfl) (fun _ _ _ _ _ h => h) ⟨(by rfl), (by intro c h; cases h), ?_⟩ hHeld ?_
          rotate_left
          focus (intro wS hSw; (try replace hSw := HSF.out wS hSw); (try dsimp only at hSw); go_simp; (try with_reducible rfl))
          (try simp only [Act.put, List.setIfInBounds_toArray, List.set_cons_zero, List.set_cons_succ])
          refine wpAnyG_pure 2 (v := ?_) (fun _ => trivial) (by simp only [List.getElem?_toArray, List.getElem?_cons_succ, List.getElem?_cons_zero]; rfl) (by kernel_rfl) (fun _ _ _ _ _ h => h) ⟨(by rfl), (by intro c h; cases h), ?_⟩ hHeld ?_
          rotate_left
          focus (intro wS hSw; (try replace hSw := HSF.out wS hSw); (try dsimp only at hSw); go_simp; (try with_reducible rfl))
          (try simp only [Act.put, List.setIfInBounds_toArray, List.set_cons_zero, List.set_cons_succ])
          refine wpAnyG_pure 3 (v := ?_) (fun _ => trivial) (by simp only [List.getElem?_toArray, List.getElem?_cons_succ, List.getElem?_cons_zero]; rfl) (by kernel_rfl) (fun _ _ _ _ _ h => h) ⟨(by rfl), (by intro c h; cases h), ?_⟩ hHeld ?_
          rotate_left
          focus (intro wS hSw; (try replace hSw := HSF.out wS hSw); (try dsimp only at hSw); go_simp; (try with_reducible rfl))
          (try simp only [Act.put, List.setIfInBounds_toArray, List.set_cons_zero, List.set_cons_succ])
          refine wpAnyG_take 4 (v := ?_) (fun _ => trivial) (by simp only [List.getElem?_toArray, List.getElem?_cons_succ, List.getElem?_cons_zero]; rfl) (by kernel_rfl) (fun _ _ _ _ _ h => h) ⟨(by rfl), (by intro c h; cases h), ?_⟩ hHeld ?_
          rotate_left
          focus (intro wS hSw; (try replace hSw := HSF.out wS hSw); (try dsimp only at hSw); go_simp; (try with_reducible rfl))
          (try simp only [Act.put, List.setIfInBounds_toArray, List.set_cons_zero, List.set_cons_succ])
          refine wpAnyG_pure 5 (v := ?_) (fun _ => trivial) (by simp only [List.getElem?_toArray, List.getElem?_cons_succ, List.getElem?_cons_zero]; rfl) (by kernel_rfl) (fun _ _ _ _ _ h => h) ⟨(by rfl), (by intro c h; cases h), ?_⟩ hHeld ?_
          rotate_left
          focus (intro wS hSw; (try replace hSw := HSF.out wS hSw); (try dsimp only at hSw); go_simp; (try with_reducible rfl))
          (try simp only [Act.put, List.setIfInBounds_toArray, List.set_cons_zero, List.set_cons_succ])
          refine wpAnyG_pure 6 (v := ?_) (fun _ => trivial) (by simp only [List.getElem?_toArray, List.getElem?_cons_succ, List.getElem?_cons_zero]; rfl) (by kernel_rfl) (fun _ _ _ _ _ h => h) ⟨(by rfl), (by intro c h; cases h), ?_⟩ hHeld ?_
          rotate_left
          focus (intro wS hSw; (try replace hSw := HSF.out wS hSw); (try dsimp only at hSw); go_simp; (try with_reducible rfl))
          (try simp only [Act.put, List.setIfInBounds_toArray, List.set_cons_zero, List.set_cons_succ])
          refine wpAnyG_pure 7 (v := ?_) (fun _ => trivial) (by simp only [List.getElem?_toArray, List.getElem?_cons_succ, List.getElem?_cons_zero]; rfl) (by kernel_rfl) (fun _ _ _ _ _ h => h) ⟨(by rfl), (by intro c h; cases h), ?_⟩ hHeld ?_
          rotate_left
          focus (intro wS hSw; (try replace hSw := HSF.out wS hSw); (try dsimp only at hSw); go_simp; (try with_reducible rfl))
          (try simp only [Act.put, List.setIfInBounds_toArray, List.set_cons_zero, List.set_cons_succ])
          refine wpAnyG_pure 8 (v := ?_) (fun _ => trivial) (by simp only [List.getElem?_toArray, List.getElem?_cons_succ, List.getElem?_cons_zero]; rfl) (by kernel_rfl) (fun _ _ _ _ _ h => h) ⟨(by rfl), (by intro c h; cases h), ?_⟩ hHeld ?_
          rotate_left
          focus (intro wS hSw; (try replace hSw := HSF.out wS hSw); (try dsimp only at hSw); go_simp; (try with_reducible rfl))
          (try simp only [Act.put, List.setIfInBounds_toArray, List.set_cons_zero, List.set_cons_succ])
          refine wpAnyG_take 9 (v := ?_) (fun _ => trivial) (by simp only [List.getElem?_toArray, List.getElem?_cons_succ, List.getElem?_cons_zero]; rfl) (by kernel_rfl) (fun _ _ _ _ _ h => h) ⟨(by rfl), (by intro c h; cases h), ?_⟩ hHeld ?_
          rotate_left
          focus (intro wS hSw; (try replace hSw := HSF.out wS hSw); (try dsimp only at hSw); go_simp; (try with_reducible rfl))
          (try simp only [Act.put, List.setIfInBounds_toArray, List.set_cons_zero, List.set_cons_succ])
          refine wpAnyG_pure 10 (v := ?_) (fun _ => trivial) (by simp only [List.getElem?_toArray, List.getElem?_cons_succ, List.getElem?_cons_zero]; rfl) (by kernel_rfl) (fun _ _ _ _ _ h => h) ⟨(by rfl), (by intro c h; cases h), ?_⟩ hHeld ?_
          rotate_left
          focus (intro wS hSw; (try replace hSw := HSF.out wS hSw); (try dsimp only at hSw); go_simp; (try with_reducible rfl))
          (try simp only [Act.put, List.setIfInBounds_toArray, List.set_cons_zero, List.set_cons_succ])
          refine wpAnyG_pure 11 (v := ?_) (fun _ => trivial) (by simp only [List.getElem?_toArray, List.getElem?_cons_succ, List.getElem?_cons_zero]; rfl) (by kernel_rfl) (fun _ _ _ _ _ h => h) ⟨(by rfl), (by intro c h; cases h), ?_⟩ hHeld ?_
          rotate_left
          focus (intro wS hSw; (try replace hSw := HSF.out wS hSw); (try dsimp only at hSw); go_simp; (try with_reducible rfl))
          (try simp only [Act.put, List.setIfInBounds_toArray, List.set_cons_zero, List.set_cons_succ])
          refine wpAnyG_take 12 (v := ?_) (fun _ => trivial) (by simp only [List.getElem?_toArray, List.getElem?_cons_succ, List.getElem?_cons_zero]; rfl) (by kernel_rfl) (fun _ _ _ _ _ h => h) ⟨(by rfl), (by intro c h; cases h), ?_⟩ hHeld ?_
          rotate_left
          focus (intro wS hSw; (try replace hSw := HSF.out wS hSw); (try dsimp only at hSw); go_simp; (try with_reducible rfl))
          (try simp only [Act.put, List.setIfInBounds_toArray, List.set_cons_zero, List.set_cons_succ])
          refine wpAnyG_pure 13 (v := ?_) (fun _ => trivial) (by simp only [List.getElem?_toArray, List.getElem?_cons_succ, List.getElem?_cons_zero]; rfl) (by kernel_rfl) (fun _ _ _ _ _ h => h) ⟨(by rfl), (by intro c h; cases h), ?_⟩ hHeld ?_
          rotate_left
          focus (intro wS hSw; (try replace hSw := HSF.out wS hSw); (try dsimp only at hSw); go_simp; (try with_reducible rfl))
          (try simp only [Act.put, List.setIfInBounds_toArray, List.set_cons_zero, List.set_cons_succ])
          refine wpAnyG_pure 14 (v := ?_) (fun _ => trivial) (by simp only [List.getElem?_toArray, List.getElem?_cons_succ, List.getElem?_cons_zero]; rfl) (by kernel_rfl) (fun _ _ _ _ _ h => h) ⟨(by rfl), (by intro c h; cases h), ?_⟩ hHeld ?_
          rotate_left
          focus (intro wS hSw; (try replace hSw := HSF.out wS hSw); (try dsimp only at hSw); go_simp; (try with_reducible rfl))
          (try simp only [Act.put, List.setIfInBounds_toArray, List.set_cons_zero, List.set_cons_succ])
          refine wpAnyG_pure 15 (v := ?_) (fun _ => trivial) (by simp only [List.getElem?_toArray, List.getElem?_cons_succ, List.getElem?_cons_zero]; rfl) (by kernel_rfl) (fun _ _ _ _ _ h => h) ⟨(by rfl), (by intro c h; cases h), ?_⟩ hHeld ?_
          rotate_left
          focus (intro wS hSw; (try replace hSw := HSF.out wS hSw); (try dsimp only at hSw); go_simp; (try with_reducible rfl))
          (try simp only [Act.put, List.setIfInBounds_toArray, List.set_cons_zero, List.set_cons_succ])
          refine wpAnyG_pure 16 (v := ?_) (fun _ => trivial) (by simp only [List.getElem?_toArray, List.getElem?_cons_succ, List.getElem?_cons_zero]; rfl) (by kernel_rfl) (fun _ _ _ _ _ h => h) ⟨(by rfl), (by intro c h; cases h), ?_⟩ hHeld ?_
          rotate_left
          focus (intro wS hSw; (try replace hSw := HSF.out wS hSw); (try dsimp only at hSw); go_simp; (try with_reducible rfl))
          (try simp only [Act.put, List.setIfInBounds_toArray, List.set_cons_zero, List.set_cons_succ])
          refine wpAnyG_take 17 (v := ?_) (fun _ => trivial) (by simp only [List.getElem?_toArray, List.getElem?_cons_succ, List.getElem?_cons_zero]; rfl) (by kernel_rfl) (fun _ _ _ _ _ h => h) ⟨(by rfl), (by intro c h; cases h), ?_⟩ hHeld ?_
          rotate_left
          focus (intro wS hSw; (try replace hSw := HSF.out wS hSw); (try dsimp only at hSw); go_simp; (try with_reducible rfl))
          (try simp only [Act.put, List.setIfInBounds_toArray, List.set_cons_zero, List.set_cons_succ])
          refine wpAnyG_pure 18 (v := ?_) (fun _ => trivial) (by simp only [List.getElem?_toArray, List.getElem?_cons_succ, List.getElem?_cons_zero]; rfl) (by kernel_rfl) (fun _ _ _ _ _ h => h) ⟨(by rfl), (by intro c h; cases h), ?_⟩ hHeld ?_
          rotate_left
          focus (intro wS hSw; (try replace hSw := HSF.out wS hSw); (try dsimp only at hSw); go_simp; (try with_reducible rfl))
          (try simp only [Act.put, List.setIfInBounds_toArray, List.set_cons_zero, List.set_cons_succ])
          refine wpAnyG_pure 19 (v := ?_) (fun _ => trivial) (by simp only [List.getElem?_toArray, List.getElem?_cons_succ, List.getElem?_cons_zero]; rfl) (by kernel_rfl) (fun _ _ _ _ _ h => h) ⟨(by rfl), (by intro c h; cases h), ?_⟩ hHeld ?_
          rotate_left
          focus (intro wS hSw; (try replace hSw := HSF.out wS hSw); (try dsimp only at hSw); go_simp; (try with_reducible rfl))
          (try simp only [Act.put, List.setIfInBounds_toArray, List.set_cons_zero, List.set_cons_succ])
          refine wpAnyG_pure 20 (v := ?_) (fun _ => trivial) (by simp only [List.getElem?_toArray, List.getElem?_cons_succ, List.getElem?_cons_zero]; rfl) (by kernel_rfl) (fun _ _ _ _ _ h => h) ⟨(by rfl), (by intro c h; cases h), ?_⟩ hHeld ?_
          rotate_left
          focus (intro wS hSw; (try replace hSw := HSF.out wS hSw); (try dsimp only at hSw); go_simp; (try with_reducible rfl))
          (try simp only [Act.put, List.setIfInBounds_toArray, List.set_cons_zero, List.set_cons_succ])
          refine wpAnyG_take 21 (v := ?_) (fun _ => trivial) (by simp only [List.getElem?_toArray, List.getElem?_cons_succ, List.getElem?_cons_zero]; rfl) (by kernel_rfl) (fun _ _ _ _ _ h => h) ⟨(by rfl), (by intro c h; cases h), ?_⟩ hHeld ?_
          rotate_left
          focus (intro wS hSw; (try replace hSw := HSF.out wS hSw); (try dsimp only at hSw); go_simp; (try with_reducible rfl))
          (try simp only [Act.put, List.setIfInBounds_toArray, List.set_cons_zero, List.set_cons_succ])
          refine wpAnyG_pure 22 (v := ?_) (fun _ => trivial) (by simp only [List.getElem?_toArray, List.getElem?_cons_succ, List.getElem?_cons_zero]; rfl) (by kernel_rfl) (fun _ _ _ _ _ h => h) ⟨(by rfl), (by intro c h; cases h), ?_⟩ hHeld ?_
          rotate_left
          focus (intro wS hSw; (try replace hSw := HSF.out wS hSw); (try dsimp only at hSw); go_simp; (try with_reducible rfl))
          (try simp only [Act.put, List.setIfInBounds_toArray, List.set_cons_zero, List.set_cons_succ])
          refine wpAnyG_pure 23 (v := ?_) (fun _ => trivial) (by simp only [List.getElem?_toArray, List.getElem?_cons_succ, List.getElem?_cons_zero]; rfl) (by kernel_rfl) (fun _ _ _ _ _ h => h) ⟨(by rfl), (by intro c h; cases h), ?_⟩ hHeld ?_
          rotate_left
          focus (intro wS hSw; (try replace hSw := HSF.out wS hSw); (try dsimp only at hSw); go_simp; (try with_reducible rfl))
          (try simp only [Act.put, List.setIfInBounds_toArray, List.set_cons_zero, List.set_cons_succ])
          refine wpAnyG_pure 24 (v := ?_) (fun _ => trivial) (by simp only [List.getElem?_toArray, List.getElem?_cons_succ, List.getElem?_cons_zero]; rfl) (by kernel_rfl) (fun _ _ _ _ _ h => h) ⟨(by rfl), (by intro c h; cases h), ?_⟩ hHeld ?_
          rotate_left
          focus (intro wS hSw; (try replace hSw := HSF.out wS hSw); (try dsimp only at hSw); go_simp; (try with_reducible rfl))
          (try simp only [Act.put, List.setIfInBounds_toArray, List.set_cons_zero, List.set_cons_succ])
          refine wpAnyG_take 25 (v := ?_) (fun _ => trivial) (by simp only [List.getElem?_toArray, List.getElem?_cons_succ, List.getElem?_cons_zero]; rfl) (by kernel_rfl) (fun _ _ _ _ _ h => h) ⟨(by rfl), (by intro c h; cases h), ?_⟩ hHeld ?_
          rotate_left
          focus (intro wS hSw; (try replace hSw := HSF.out wS hSw); (try dsimp only at hSw); go_simp; (try with_reducible rfl))
          (try simp only [Act.put, List.setIfInBounds_toArray, List.set_cons_zero, List.set_cons_succ])
          refine wpAnyS_ready [26] (by kernel_rfl) (by simp) (AllReadyS.consG (by simp only [List.getElem?_toArray, List.getElem?_cons_succ, List.getElem?_cons_zero]; rfl) (by rfl) (fun K hK => ?_) AllReadyS.nil)
          refine callS (by intro c h; cases h) (by go_simp; try with_reducible rfl) (HGd.out wd BD.out) ?_
          intro w6 hBq
          have B6 := hid (BD.out.trans (hBq.mono BD.out.size))
          have HO6 := hid (HOd.out.below hBq)
          refine hK.out _ _ B6.out ?_
          (try simp only [Act.put, List.setIfInBounds_toArray, List.set_cons_zero, List.set_cons_succ])
          clear hK K hBq
          clear hHeld
          have hHeld := B6.out
          refine wpAnyG_pure 27 (v := ?_) (fun _ => trivial) (by simp only [List.getElem?_toArray, List.getElem?_cons_succ, List.getElem?_cons_zero]; rfl) (by kernel_rfl) (fun _ _ _ _ _ h => h) ⟨(by rfl), (by intro c h; cases h), ?_⟩ hHeld ?_
          rotate_left
          focus (intro wS hSw; (try replace hSw := HSF.out wS hSw); (try dsimp only at hSw); go_simp; (try with_reducible rfl))
          (try simp only [Act.put, List.setIfInBounds_toArray, List.set_cons_zero, List.set_cons_succ])
          refine wpAnyS_done (by kernel_rfl) ?_
          clear hHeld HSF
          cases gv with
          | false =>
            have hrow := hid (show betRow W H D kind out r l fi i (d + 1) = betRow W H D kind out r l fi i d by rw [HRD.out, if_neg (fun h => by cases h.2.2), List.append_nil])
            as_aux_lemma =>
              go_wp2_with fail
              go_roundw
              case rel => exact ⟨d + 1, by omega, by go_num, by rw [hrow.out]; exact HO6.out, B6.out⟩
              case measure => simp [intOf]; omega
          | true =>
            have hrow := hid (show betRow W H D kind out r l fi i (d + 1) = betRow W H D kind out r l fi i d ++ [((i : Int), (d : Int))] by rw [HRD.out, if_pos ⟨rfl, hfd, rfl⟩])
            have SG := hid (shRK.blk (l := [((i : Int), (d : Int))]) (Blk.new w6 29 #[.int .i64 (i : Nat), .int .i64 (d : Nat)]) (by intro e he; simp only [List.mem_singleton] at he; subst he; exact ⟨⟨by simp only; omega, by simp only; omega⟩, by simp only; omega, by simp only; omega⟩))
            have hl9 := hid (show (AL ++ betRow W H D kind out r l fi i d).length + ([((i : Int), (d : Int))] : List Sh).length ≤ 100000000 by rw [List.length_append, List.length_singleton]; have h1 := hal.out; have h2 := hrl6.out; have h3 := hm24.out; omega)
            have hb9 := hid (show w1.heap.size ≤ (w6.alloc (Obj.cells #[.int .i64 (i : Nat), .int .i64 (d : Nat)] 29)).heap.size by have h1 := B6.out.size; simp; omega)
            as_aux_lemma =>
              go_wp2_with (at_builtin; refine shRK.appL _ rfl (.tmp 66) (.tmp 70) rfl rfl (HO6.out.alloc _) (ys := [((i : Int), (d : Int))]) (c := 1) rfl SG.out hl9.out hb9.out ?_; intro A9 c9 w9 ho9 hg9; have HO9 := hid ho9; have HB9 := hid (show Below w1.heap.size w1 w9 from (B6.out.alloc B6.out.size _).grown hg9 hb9.out (fun g hg => (own_blk HO6.out g hg).1)); clear ho9 hg9)
              go_roundw
              case rel => exact ⟨d + 1, by omega, by go_num, by rw [hrow.out, ← List.append_assoc]; have h9 := HO9.out; simp only [List.length_append, List.length_singleton] at h9; exact h9, HB9.out⟩
              case measure => simp [intOf]; omega
        case neg =>
          obtain rfl : d = r.length := by omega
          obtain ⟨⟨k0, k1, k2, k3, k4⟩, l0, xz, lz⟩ := HX.out wr HB.out
          as_aux_lemma =>
            go_wp2_with fail
            go_roundw
            case rel => exact ⟨i + 1, by omega, by go_num, by rw [hsu.out]; exact HO.out, HB.out⟩
            case measure => simp [intOf]; omega
    case neg =>
      obtain rfl : i = r.length := by omega
      obtain ⟨⟨k0, k1, k2, k3, k4⟩, l0, xz, lz⟩ := HX.out wr HB.out
      have hin := hid (fun (x : Sh) (hx : x ∈ betL W H D kind out r l full r.length r.length) => show I64 x.1 ∧ I64 x.2 from by
        obtain ⟨a, b, ha, hb, rfl, -⟩ := betL_mem.1 hx
        exact ⟨⟨by simp only; omega, by simp only; omega⟩, by simp only; omega, by simp only; omega⟩)
      go_wp2_with fail
      go_ret
      obtain ⟨A9, c9, rfl, _, _, hss⟩ := HO.out.slr hin.out
      exact ⟨A9, c9, rfl, hss, B1.out.trans (HB.out.mono B1.out.size)⟩
end Go.Proofs.YtgbgcmhmlnmklaaGreatDoor
namespace Go.Proofs.YtgbgcmhmlnmklaaGreatDoor
open Go.RowKit Go.IntWalk Go.Shelf
/-- What Shifts (full) and Backs return: the list in its order. -/
def RetB (W H D : Int) (kind out r : List Int) (l : List Bool) (full : Bool) (w : World) (e : Ending) (w' : World) : Prop := ∃ (A' : Option Addr) (c' : Nat), e = .returned (.slice A' (betL W H D kind out r l full r.length r.length).length c') ∧ SlR w' w'.heap.size A' (betL W H D kind out r l full r.length r.length) ∧ Below w.heap.size w w'
set_option maxRecDepth 100000 in
set_option maxHeartbeats 2000000 in
theorem shiftsB_say (W H D : Int) (Ak Ao : Option Addr) (ck co : Nat) (kind out : List Int) (Ar Al : Option Addr) (cr cl : Nat) (r : List Int) (l : List Bool) (t : Int) (w : World) (hF : RF W H D kind out) (hk : SlR w w.heap.size Ak kind) (ho : SlR w w.heap.size Ao out) (hr : SlR w w.heap.size Ar r) (hL : SlR w w.heap.size Al l)
    (hreg : r.Pairwise (· < ·)) (hlr : r.length = l.length) (h24 : l.length ≤ 24) :
    Calls Tryz.prog 25 #[.agg #[.int .i64 W, .int .i64 H, .int .i64 D, .slice Ak kind.length ck, .slice Ao out.length co], .slice Ar r.length cr, .agg #[.slice Al l.length cl, .int .i64 t]] w (RetB W H D kind out r l true w) := by
  obtain ⟨w1, hw1⟩ : ∃ w1, w1 = ((w.alloc (Obj.cells #[Value.int .i64 W, Value.int .i64 H, Value.int .i64 D, Value.slice Ak kind.length ck, Value.slice Ao out.length co] 24)).alloc (Obj.cells #[.slice Al l.length cl, .int .i64 t] 27)) := ⟨_, rfl⟩
  have B1 := hid (show Below w.heap.size w w1 by rw [hw1]; (repeat (first | exact Below.refl _ _ | assumption | refine below_drewN ?_ _ | refine Below.drew ?_ | refine Below.alloc ?_ (by (try simp); (try omega)) _ | refine Below.setCell ?_ (by (try simp); (try omega)) _)))
  have X1 := (show Blk w1 w.heap.size 24 #[Value.int .i64 W, Value.int .i64 H, Value.int .i64 D, Value.slice Ak kind.length ck, Value.slice Ao out.length co] by rw [hw1]; exact (Blk.new w _ _).alloc _)
  have X2 := (show Blk w1 (w.heap.size + 1) 27 #[.slice Al l.length cl, .int .i64 t] by rw [hw1]; exact Blk.new_at (by simp))
  have HS := hid (shiftsB_any W H D Ak Ao ck co kind out Ar Al cr cl r l t true w1 hF ((hk.below B1.out).more B1.out.size) ((ho.below B1.out).more B1.out.size) ((hr.below B1.out).more B1.out.size) ((hL.below B1.out).more B1.out.size) hreg hlr h24)
  obtain ⟨k0, k1, k2, k3, k4⟩ := blk5 X1
  have l0 := X2.cell 0; have l1 := X2.cell 1; have xz := X1.lt; have lz := X2.lt
  simp at l0 l1
  clear hF hk ho hr hL hlr X1 X2
  unfold RetB
  generalize betL W H D kind out r l true r.length r.length = bl at *
  go_enter Tryz.func25, Tryz.ntmps25
  go_upto_region 1 with fail
  rw [← hw1]
  clear hw1
  go_wp2_with fail
  refine HS.out.mono ?_
  rintro e w2 ⟨A', c', rfl, hs, hB⟩
  have BW := hid (B1.out.trans (hB.mono B1.out.size))
  have HSl := hid hs
  clear hB hs HS
  go_wp2_with fail
  go_ret
  exact ⟨A', c', rfl, HSl.out, BW.out⟩
set_option maxRecDepth 100000 in
set_option maxHeartbeats 2000000 in
theorem backsB_say (W H D : Int) (Ak Ao : Option Addr) (ck co : Nat) (kind out : List Int) (Ar Al : Option Addr) (cr cl : Nat) (r : List Int) (l : List Bool) (t : Int) (w : World) (hF : RF W H D kind out) (hk : SlR w w.heap.size Ak kind) (ho : SlR w w.heap.size Ao out) (hr : SlR w w.heap.size Ar r) (hL : SlR w w.heap.size Al l)
    (hreg : r.Pairwise (· < ·)) (hlr : r.length = l.length) (h24 : l.length ≤ 24) :
    Calls Tryz.prog 27 #[.agg #[.int .i64 W, .int .i64 H, .int .i64 D, .slice Ak kind.length ck, .slice Ao out.length co], .slice Ar r.length cr, .agg #[.slice Al l.length cl, .int .i64 t]] w (RetB W H D kind out r l false w) := by
  obtain ⟨w1, hw1⟩ : ∃ w1, w1 = ((w.alloc (Obj.cells #[Value.int .i64 W, Value.int .i64 H, Value.int .i64 D, Value.slice Ak kind.length ck, Value.slice Ao out.length co] 24)).alloc (Obj.cells #[.slice Al l.length cl, .int .i64 t] 27)) := ⟨_, rfl⟩
  have B1 := hid (show Below w.heap.size w w1 by rw [hw1]; (repeat (first | exact Below.refl _ _ | assumption | refine below_drewN ?_ _ | refine Below.drew ?_ | refine Below.alloc ?_ (by (try simp); (try omega)) _ | refine Below.setCell ?_ (by (try simp); (try omega)) _)))
  have X1 := (show Blk w1 w.heap.size 24 #[Value.int .i64 W, Value.int .i64 H, Value.int .i64 D, Value.slice Ak kind.length ck, Value.slice Ao out.length co] by rw [hw1]; exact (Blk.new w _ _).alloc _)
  have X2 := (show Blk w1 (w.heap.size + 1) 27 #[.slice Al l.length cl, .int .i64 t] by rw [hw1]; exact Blk.new_at (by simp))
  have HS := hid (shiftsB_any W H D Ak Ao ck co kind out Ar Al cr cl r l t false w1 hF ((hk.below B1.out).more B1.out.size) ((ho.below B1.out).more B1.out.size) ((hr.below B1.out).more B1.out.size) ((hL.below B1.out).more B1.out.size) hreg hlr h24)
  obtain ⟨k0, k1, k2, k3, k4⟩ := blk5 X1
  have l0 := X2.cell 0; have l1 := X2.cell 1; have xz := X1.lt; have lz := X2.lt
  simp at l0 l1
  clear hF hk ho hr hL hlr X1 X2
  unfold RetB
  generalize betL W H D kind out r l false r.length r.length = bl at *
  go_enter Tryz.func27, Tryz.ntmps27
  go_upto_region 1 with fail
  rw [← hw1]
  clear hw1
  go_wp2_with fail
  refine HS.out.mono ?_
  rintro e w2 ⟨A', c', rfl, hs, hB⟩
  have BW := hid (B1.out.trans (hB.mono B1.out.size))
  have HSl := hid hs
  clear hB hs HS
  go_wp2_with fail
  go_ret
  exact ⟨A', c', rfl, HSl.out, BW.out⟩
set_option maxRecDepth 100000 in
set_option maxHeartbeats 2000000 in
theorem shiftsR_say (W H D : Int) (Ak Ao : Option Addr) (ck co : Nat) (kind out : List Int) (Ar Al : Option Addr) (cr cl : Nat) (r : List Int) (l : List Bool) (t : Int) (w : World) (hF : RF W H D kind out) (hk : SlR w w.heap.size Ak kind) (ho : SlR w w.heap.size Ao out) (hr : SlR w w.heap.size Ar r) (hL : SlR w w.heap.size Al l)
    (hlr : r.length = l.length) (h24 : l.length ≤ 24) :
    Calls Tryz.prog 26 #[.agg #[.int .i64 W, .int .i64 H, .int .i64 D, .slice Ak kind.length ck, .slice Ao out.length co], .slice Ar r.length cr, .agg #[.slice Al l.length cl, .int .i64 t]] w (RetB W H D kind out r l true w) := by
  obtain ⟨w1, hw1⟩ : ∃ w1, w1 = ((w.alloc (Obj.cells #[Value.int .i64 W, Value.int .i64 H, Value.int .i64 D, Value.slice Ak kind.length ck, Value.slice Ao out.length co] 24)).alloc (Obj.cells #[.slice Al l.length cl, .int .i64 t] 27)) := ⟨_, rfl⟩
  have B1 := hid (show Below w.heap.size w w1 by rw [hw1]; (repeat (first | exact Below.refl _ _ | assumption | refine below_drewN ?_ _ | refine Below.drew ?_ | refine Below.alloc ?_ (by (try simp); (try omega)) _ | refine Below.setCell ?_ (by (try simp); (try omega)) _)))
  have X1 := (show Blk w1 w.heap.size 24 #[Value.int .i64 W, Value.int .i64 H, Value.int .i64 D, Value.slice Ak kind.length ck, Value.slice Ao out.length co] by rw [hw1]; exact (Blk.new w _ _).alloc _)
  have X2 := (show Blk w1 (w.heap.size + 1) 27 #[.slice Al l.length cl, .int .i64 t] by rw [hw1]; exact Blk.new_at (by simp))
  have HS := hid (between_any W H D Ak Ao ck co kind out Ar Al cr cl r l t true w1 hF ((hk.below B1.out).more B1.out.size) ((ho.below B1.out).more B1.out.size) ((hr.below B1.out).more B1.out.size) ((hL.below B1.out).more B1.out.size) hlr h24)
  obtain ⟨k0, k1, k2, k3, k4⟩ := blk5 X1
  have l0 := X2.cell 0; have l1 := X2.cell 1; have xz := X1.lt; have lz := X2.lt
  simp at l0 l1
  clear hF hk ho hr hL hlr X1 X2
  unfold RetB
  generalize betL W H D kind out r l true r.length r.length = bl at *
  go_enter Tryz.func26, Tryz.ntmps26
  go_upto_region 1 with fail
  rw [← hw1]
  clear hw1
  go_wp2_with fail
  refine HS.out.mono ?_
  rintro e w2 ⟨A', c', rfl, hs, hB⟩
  have BW := hid (B1.out.trans (hB.mono B1.out.size))
  have HSl := hid hs
  clear hB hs HS
  go_wp2_with fail
  go_ret
  exact ⟨A', c', rfl, HSl.out, BW.out⟩
set_option maxRecDepth 100000 in
set_option maxHeartbeats 2000000 in
theorem backsR_say (W H D : Int) (Ak Ao : Option Addr) (ck co : Nat) (kind out : List Int) (Ar Al : Option Addr) (cr cl : Nat) (r : List Int) (l : List Bool) (t : Int) (w : World) (hF : RF W H D kind out) (hk : SlR w w.heap.size Ak kind) (ho : SlR w w.heap.size Ao out) (hr : SlR w w.heap.size Ar r) (hL : SlR w w.heap.size Al l)
    (hlr : r.length = l.length) (h24 : l.length ≤ 24) :
    Calls Tryz.prog 28 #[.agg #[.int .i64 W, .int .i64 H, .int .i64 D, .slice Ak kind.length ck, .slice Ao out.length co], .slice Ar r.length cr, .agg #[.slice Al l.length cl, .int .i64 t]] w (RetB W H D kind out r l false w) := by
  obtain ⟨w1, hw1⟩ : ∃ w1, w1 = ((w.alloc (Obj.cells #[Value.int .i64 W, Value.int .i64 H, Value.int .i64 D, Value.slice Ak kind.length ck, Value.slice Ao out.length co] 24)).alloc (Obj.cells #[.slice Al l.length cl, .int .i64 t] 27)) := ⟨_, rfl⟩
  have B1 := hid (show Below w.heap.size w w1 by rw [hw1]; (repeat (first | exact Below.refl _ _ | assumption | refine below_drewN ?_ _ | refine Below.drew ?_ | refine Below.alloc ?_ (by (try simp); (try omega)) _ | refine Below.setCell ?_ (by (try simp); (try omega)) _)))
  have X1 := (show Blk w1 w.heap.size 24 #[Value.int .i64 W, Value.int .i64 H, Value.int .i64 D, Value.slice Ak kind.length ck, Value.slice Ao out.length co] by rw [hw1]; exact (Blk.new w _ _).alloc _)
  have X2 := (show Blk w1 (w.heap.size + 1) 27 #[.slice Al l.length cl, .int .i64 t] by rw [hw1]; exact Blk.new_at (by simp))
  have HS := hid (between_any W H D Ak Ao ck co kind out Ar Al cr cl r l t false w1 hF ((hk.below B1.out).more B1.out.size) ((ho.below B1.out).more B1.out.size) ((hr.below B1.out).more B1.out.size) ((hL.below B1.out).more B1.out.size) hlr h24)
  obtain ⟨k0, k1, k2, k3, k4⟩ := blk5 X1
  have l0 := X2.cell 0; have l1 := X2.cell 1; have xz := X1.lt; have lz := X2.lt
  simp at l0 l1
  clear hF hk ho hr hL hlr X1 X2
  unfold RetB
  generalize betL W H D kind out r l false r.length r.length = bl at *
  go_enter Tryz.func28, Tryz.ntmps28
  go_upto_region 1 with fail
  rw [← hw1]
  clear hw1
  go_wp2_with fail
  refine HS.out.mono ?_
  rintro e w2 ⟨A', c', rfl, hs, hB⟩
  have BW := hid (B1.out.trans (hB.mono B1.out.size))
  have HSl := hid hs
  clear hB hs HS
  go_wp2_with fail
  go_ret
  exact ⟨A', c', rfl, HSl.out, BW.out⟩
end Go.Proofs.YtgbgcmhmlnmklaaGreatDoor
namespace Go.Proofs.YtgbgcmhmlnmklaaGreatDoor
open Go.RowKit Go.IntWalk
set_option maxRecDepth 100000 in
set_option maxHeartbeats 2000000 in
theorem beq_any (A1 A2 : Option Addr) (c1 c2 : Nat) (l1 l2 : List Bool) (w : World) (hl1 : l1.length ≤ maxLen) (hl2 : l2.length ≤ maxLen) (hs1 : SlR w w.heap.size A1 l1) (hs2 : SlR w w.heap.size A2 l2) :
    Calls Tryz.prog 41 #[.slice A1 l1.length c1, .slice A2 l2.length c2] w fun e w' => e = .returned (.bool (decide (l1 = l2))) ∧ Below w.heap.size w w' := by
  unfold maxLen at hl1 hl2
  by_cases hn : l1.length = l2.length
  · have Hn := hid hn
    have H1 := hid hs1
    have H2 := hid hs2
    have e2 : ((l1.length : Int) != (l2.length : Int)) = false := by simp [hn]
    clear hs1 hs2
    go_enter Tryz.func41, Tryz.ntmps41
    clear hn
    go_wp2_with fail
    have R0 : Hid (decide (l1 = l2) = decide (l1.drop 0 = l2.drop 0)) := by simp [Hid]
    go_loopw [13] (fun i wr => ∃ k : Nat, k ≤ l1.length ∧ i = .int .i64 k ∧ Hid (decide (l1 = l2) = decide (l1.drop k = l2.drop k)) ∧ Below w.heap.size w wr) (fun i _ => l1.length - (intOf i).toNat)
    case atStart => exact ⟨0, Nat.zero_le _, rfl, R0, Below.refl _ _⟩
    case round =>
      clear R0
      obtain ⟨k, hk, rfl, hr, hB⟩ := hrel
      have HB := hid hB
      clear hB
      by_cases hlt : k < l1.length
      · have hlt2 : k < l2.length := by have := Hn.out; omega
        obtain ⟨b1, o1, rfl, hb1, g1⟩ := H1.out.bool hlt
        obtain ⟨b2, o2, rfl, hb2, g3⟩ := H2.out.bool hlt2
        replace g1 := (bcell HB.out _ _ hb1).trans g1
        replace g3 := (bcell HB.out _ _ hb2).trans g3
        have z1 : b1 < wr.heap.size := by have := HB.out.size; omega
        have z2 : b2 < wr.heap.size := by have := HB.out.size; omega
        have d1 := (List.drop_eq_getElem_cons hlt)
        have d2 := (List.drop_eq_getElem_cons hlt2)
        have i1 : (k:Int) < l1.length := by omega
        have i2 : (k:Int) < l2.length := by omega
        have hr2 := hid (show decide (l1 = l2) = _ from hr.out.trans (by rw [d1, d2]))
        clear d1 d2 hr
        generalize l1[k] = x at *
        generalize l2[k] = y at *
        have HSF := hid (fun (wq : World) (hq : Below wr.heap.size wr wq) => And.intro ((bcell hq _ _ z1).trans g1) ((bcell hq _ _ z2).trans g3))
        have BD := hid ((Below.refl wr.heap.size wr).drew)
        go_upto_region 6 with fail
        refine wpIn_wide.1 (wpIn_region_S (n := 0) (fun wq => Below wr.heap.size wr wq) [] (by kernel_rfl) BD.out (fun hHeld => ?_))
        generalize wr.drew = wd at *
        by_cases e1 : x = y
        · subst e1
          refine wpAnyG_pure 0 (v := ?_) (fun _ => trivial) (by simp only [List.getElem?_toArray, List.getElem?_cons_succ, List.getElem?_cons_zero]; rfl) (by kernel_rfl) (fun _ _ _ _ _ h => h) ⟨(by rfl), (by intro c h; cases h), ?_⟩ hHeld ?_
          rotate_left
          focus (intro wS hSw; (try replace hSw := HSF.out wS hSw); (try dsimp only at hSw); go_simp; (try with_reducible rfl))
          (try simp only [Act.put, List.setIfInBounds_toArray, List.set_cons_zero, List.set_cons_succ])
          refine wpAnyG_pure 1 (v := ?_) (fun _ => trivial) (by simp only [List.getElem?_toArray, List.getElem?_cons_succ, List.getElem?_cons_zero]; rfl) (by kernel_rfl) (fun _ _ _ _ _ h => h) ⟨(by rfl), (by intro c h; cases h), ?_⟩ hHeld ?_
          rotate_left
          focus (intro wS hSw; (try replace hSw := HSF.out wS hSw); (try dsimp only at hSw); go_simp; (try with_reducible rfl))
          (try simp only [Act.put, List.setIfInBounds_toArray, List.set_cons_zero, List.set_cons_succ])
          refine wpAnyG_pure 2 (v := ?_) (fun _ => trivial) (by simp only [List.getElem?_toArray, List.getElem?_cons_succ, List.getElem?_cons_zero]; rfl) (by kernel_rfl) (fun _ _ _ _ _ h => h) ⟨(by rfl), (by intro c h; cases h), ?_⟩ hHeld ?_
          rotate_left
          focus (intro wS hSw; (try replace hSw := HSF.out wS hSw); (try dsimp only at hSw); go_simp; (try with_reducible rfl))
          (try simp only [Act.put, List.setIfInBounds_toArray, List.set_cons_zero, List.set_cons_succ])
          refine wpAnyG_take 3 (v := ?_) (fun _ => trivial) (by simp only [List.getElem?_toArray, List.getElem?_cons_succ, List.getElem?_cons_zero]; rfl) (by kernel_rfl) (fun _ _ _ _ _ h => h) ⟨(by rfl), (by intro c h; cases h), ?_⟩ hHeld ?_
          rotate_left
          focus (intro wS hSw; (try replace hSw := HSF.out wS hSw); (try dsimp only at hSw); go_simp; (try with_reducible rfl))
          (try simp only [Act.put, List.setIfInBounds_toArray, List.set_cons_zero, List.set_cons_succ])
          refine wpAnyG_pure 4 (v := ?_) (fun _ => trivial) (by simp only [List.getElem?_toArray, List.getElem?_cons_succ, List.getElem?_cons_zero]; rfl) (by kernel_rfl) (fun _ _ _ _ _ h => h) ⟨(by rfl), (by intro c h; cases h), ?_⟩ hHeld ?_
          rotate_left
          focus (intro wS hSw; (try replace hSw := HSF.out wS hSw); (try dsimp only at hSw); go_simp; (try with_reducible rfl))
          (try simp only [Act.put, List.setIfInBounds_toArray, List.set_cons_zero, List.set_cons_succ])
          refine wpAnyG_pure 5 (v := ?_) (fun _ => trivial) (by simp only [List.getElem?_toArray, List.getElem?_cons_succ, List.getElem?_cons_zero]; rfl) (by kernel_rfl) (fun _ _ _ _ _ h => h) ⟨(by rfl), (by intro c h; cases h), ?_⟩ hHeld ?_
          rotate_left
          focus (intro wS hSw; (try replace hSw := HSF.out wS hSw); (try dsimp only at hSw); go_simp; (try with_reducible rfl))
          (try simp only [Act.put, List.setIfInBounds_toArray, List.set_cons_zero, List.set_cons_succ])
          refine wpAnyG_pure 6 (v := ?_) (fun _ => trivial) (by simp only [List.getElem?_toArray, List.getElem?_cons_succ, List.getElem?_cons_zero]; rfl) (by kernel_rfl) (fun _ _ _ _ _ h => h) ⟨(by rfl), (by intro c h; cases h), ?_⟩ hHeld ?_
          rotate_left
          focus (intro wS hSw; (try replace hSw := HSF.out wS hSw); (try dsimp only at hSw); go_simp; (try with_reducible rfl))
          (try simp only [Act.put, List.setIfInBounds_toArray, List.set_cons_zero, List.set_cons_succ])
          refine wpAnyG_take 7 (v := ?_) (fun _ => trivial) (by simp only [List.getElem?_toArray, List.getElem?_cons_succ, List.getElem?_cons_zero]; rfl) (by kernel_rfl) (fun _ _ _ _ _ h => h) ⟨(by rfl), (by intro c h; cases h), ?_⟩ hHeld ?_
          rotate_left
          focus (intro wS hSw; (try replace hSw := HSF.out wS hSw); (try dsimp only at hSw); go_simp; (try with_reducible rfl))
          (try simp only [Act.put, List.setIfInBounds_toArray, List.set_cons_zero, List.set_cons_succ])
          refine wpAnyG_pure 8 (v := ?_) (fun _ => trivial) (by simp only [List.getElem?_toArray, List.getElem?_cons_succ, List.getElem?_cons_zero]; rfl) (by kernel_rfl) (fun _ _ _ _ _ h => h) ⟨(by rfl), (by intro c h; cases h), ?_⟩ hHeld ?_
          rotate_left
          focus (intro wS hSw; (try replace hSw := HSF.out wS hSw); (try dsimp only at hSw); go_simp; (try with_reducible rfl))
          (try simp only [Act.put, List.setIfInBounds_toArray, List.set_cons_zero, List.set_cons_succ])
          refine wpAnyS_done (by kernel_rfl) ?_
          clear hHeld HSF
          go_wp2_with fail
          go_roundw
          case rel => exact ⟨k + 1, by omega, by go_num, by rw [hr2.out]; simp [Hid], HB.out.trans (BD.out.mono HB.out.size)⟩
          case measure => simp [intOf]; omega
        · have hno := hid (show decide (l1 = l2) = false by rw [hr2.out]; simp [e1])
          have e1b : (!x == y) = true := by cases x <;> cases y <;> simp at e1 ⊢
          clear hr2
          refine wpAnyG_pure 0 (v := ?_) (fun _ => trivial) (by simp only [List.getElem?_toArray, List.getElem?_cons_succ, List.getElem?_cons_zero]; rfl) (by kernel_rfl) (fun _ _ _ _ _ h => h) ⟨(by rfl), (by intro c h; cases h), ?_⟩ hHeld ?_
          rotate_left
          focus (intro wS hSw; (try replace hSw := HSF.out wS hSw); (try dsimp only at hSw); go_simp; (try with_reducible rfl))
          (try simp only [Act.put, List.setIfInBounds_toArray, List.set_cons_zero, List.set_cons_succ])
          refine wpAnyG_pure 1 (v := ?_) (fun _ => trivial) (by simp only [List.getElem?_toArray, List.getElem?_cons_succ, List.getElem?_cons_zero]; rfl) (by kernel_rfl) (fun _ _ _ _ _ h => h) ⟨(by rfl), (by intro c h; cases h), ?_⟩ hHeld ?_
          rotate_left
          focus (intro wS hSw; (try replace hSw := HSF.out wS hSw); (try dsimp only at hSw); go_simp; (try with_reducible rfl))
          (try simp only [Act.put, List.setIfInBounds_toArray, List.set_cons_zero, List.set_cons_succ])
          refine wpAnyG_pure 2 (v := ?_) (fun _ => trivial) (by simp only [List.getElem?_toArray, List.getElem?_cons_succ, List.getElem?_cons_zero]; rfl) (by kernel_rfl) (fun _ _ _ _ _ h => h) ⟨(by rfl), (by intro c h; cases h), ?_⟩ hHeld ?_
          rotate_left
          focus (intro wS hSw; (try replace hSw := HSF.out wS hSw); (try dsimp only at hSw); go_simp; (try with_reducible rfl))
          (try simp only [Act.put, List.setIfInBounds_toArray, List.set_cons_zero, List.set_cons_succ])
          refine wpAnyG_take 3 (v := ?_) (fun _ => trivial) (by simp only [List.getElem?_toArray, List.getElem?_cons_succ, List.getElem?_cons_zero]; rfl) (by kernel_rfl) (fun _ _ _ _ _ h => h) ⟨(by rfl), (by intro c h; cases h), ?_⟩ hHeld ?_
          rotate_left
          focus (intro wS hSw; (try replace hSw := HSF.out wS hSw); (try dsimp only at hSw); go_simp; (try with_reducible rfl))
          (try simp only [Act.put, List.setIfInBounds_toArray, List.set_cons_zero, List.set_cons_succ])
          refine wpAnyG_pure 4 (v := ?_) (fun _ => trivial) (by simp only [List.getElem?_toArray, List.getElem?_cons_succ, List.getElem?_cons_zero]; rfl) (by kernel_rfl) (fun _ _ _ _ _ h => h) ⟨(by rfl), (by intro c h; cases h), ?_⟩ hHeld ?_
          rotate_left
          focus (intro wS hSw; (try replace hSw := HSF.out wS hSw); (try dsimp only at hSw); go_simp; (try with_reducible rfl))
          (try simp only [Act.put, List.setIfInBounds_toArray, List.set_cons_zero, List.set_cons_succ])
          refine wpAnyG_pure 5 (v := ?_) (fun _ => trivial) (by simp only [List.getElem?_toArray, List.getElem?_cons_succ, List.getElem?_cons_zero]; rfl) (by kernel_rfl) (fun _ _ _ _ _ h => h) ⟨(by rfl), (by intro c h; cases h), ?_⟩ hHeld ?_
          rotate_left
          focus (intro wS hSw; (try replace hSw := HSF.out wS hSw); (try dsimp only at hSw); go_simp; (try with_reducible rfl))
          (try simp only [Act.put, List.setIfInBounds_toArray, List.set_cons_zero, List.set_cons_succ])
          refine wpAnyG_pure 6 (v := ?_) (fun _ => trivial) (by simp only [List.getElem?_toArray, List.getElem?_cons_succ, List.getElem?_cons_zero]; rfl) (by kernel_rfl) (fun _ _ _ _ _ h => h) ⟨(by rfl), (by intro c h; cases h), ?_⟩ hHeld ?_
          rotate_left
          focus (intro wS hSw; (try replace hSw := HSF.out wS hSw); (try dsimp only at hSw); go_simp; (try with_reducible rfl))
          (try simp only [Act.put, List.setIfInBounds_toArray, List.set_cons_zero, List.set_cons_succ])
          refine wpAnyG_take 7 (v := ?_) (fun _ => trivial) (by simp only [List.getElem?_toArray, List.getElem?_cons_succ, List.getElem?_cons_zero]; rfl) (by kernel_rfl) (fun _ _ _ _ _ h => h) ⟨(by rfl), (by intro c h; cases h), ?_⟩ hHeld ?_
          rotate_left
          focus (intro wS hSw; (try replace hSw := HSF.out wS hSw); (try dsimp only at hSw); go_simp; (try with_reducible rfl))
          (try simp only [Act.put, List.setIfInBounds_toArray, List.set_cons_zero, List.set_cons_succ])
          refine wpAnyG_pure 8 (v := ?_) (fun _ => trivial) (by simp only [List.getElem?_toArray, List.getElem?_cons_succ, List.getElem?_cons_zero]; rfl) (by kernel_rfl) (fun _ _ _ _ _ h => h) ⟨(by rfl), (by intro c h; cases h), ?_⟩ hHeld ?_
          rotate_left
          focus (intro wS hSw; (try replace hSw := HSF.out wS hSw); (try dsimp only at hSw); go_simp; (try with_reducible rfl))
          (try simp only [Act.put, List.setIfInBounds_toArray, List.set_cons_zero, List.set_cons_succ])
          refine wpAnyS_done (by kernel_rfl) ?_
          clear hHeld HSF
          go_wp2_with fail
          go_ret
          exact ⟨ret_bool (by rw [hno.out]), HB.out.trans (BD.out.mono HB.out.size)⟩
      · obtain rfl : k = l1.length := by omega
        have hall := hid (show decide (l1 = l2) = true by rw [hr.out]; simp [Hn.out])
        go_wp2_with fail
        go_ret
        exact ⟨ret_bool (by rw [hall.out]), HB.out⟩
  · have e2 : ((l1.length : Int) != (l2.length : Int)) = true := by simp; omega
    have hne := hid (show decide (l1 = l2) = false by simp; intro e; exact hn (by rw [e]))
    clear hs1 hs2
    go_enter Tryz.func41, Tryz.ntmps41
    go_wp2_with fail
    go_ret
    exact ⟨ret_bool (by rw [hne.out]), Below.refl _ _⟩
set_option maxRecDepth 100000 in
set_option maxHeartbeats 2000000 in
theorem lsame_any (A1 A2 : Option Addr) (c1 c2 : Nat) (l1 l2 : List Bool) (t1 t2 : Int) (w : World) (hl1 : l1.length ≤ maxLen) (hl2 : l2.length ≤ maxLen) (hs1 : SlR w w.heap.size A1 l1) (hs2 : SlR w w.heap.size A2 l2) :
    Calls Tryz.prog 14 #[.agg #[.slice A1 l1.length c1, .int .i64 t1], .agg #[.slice A2 l2.length c2, .int .i64 t2]] w fun e w' => e = .returned (.bool (sameL l1 l2 t1 t2)) ∧ Below w.heap.size w w' := by
  obtain ⟨w1, hw1⟩ : ∃ w1, w1 = ((w.alloc (Obj.cells #[.slice A1 l1.length c1, .int .i64 t1] 27)).alloc (Obj.cells #[.slice A2 l2.length c2, .int .i64 t2] 27)) := ⟨_, rfl⟩
  have B1 := hid (show Below w.heap.size w w1 by rw [hw1]; (repeat (first | exact Below.refl _ _ | assumption | refine below_drewN ?_ _ | refine Below.drew ?_ | refine Below.alloc ?_ (by (try simp); (try omega)) _ | refine Below.setCell ?_ (by (try simp); (try omega)) _)))
  have X1 := (show Blk w1 w.heap.size 27 #[.slice A1 l1.length c1, .int .i64 t1] by rw [hw1]; exact (Blk.new w _ _).alloc _)
  have X2 := (show Blk w1 (w.heap.size + 1) 27 #[.slice A2 l2.length c2, .int .i64 t2] by rw [hw1]; exact Blk.new_at (by simp))
  have HE := hid (beq_any A1 A2 c1 c2 l1 l2 w1 hl1 hl2 ((hs1.below B1.out).more B1.out.size) ((hs2.below B1.out).more B1.out.size))
  have k0 := X1.cell 0; have k1 := X1.cell 1; have l0 := X2.cell 0; have l1' := X2.cell 1; have xz := X1.lt; have lz := X2.lt
  simp at k0 k1 l0 l1'
  clear hs1 hs2 X1 X2 hl1 hl2
  go_enter Tryz.func14, Tryz.ntmps14
  go_upto_region 1 with fail
  rw [← hw1]
  clear hw1
  by_cases ht : t1 = t2
  · have hsm := hid (show sameL l1 l2 t1 t2 = decide (l1 = l2) by simp [sameL, ht])
    subst ht
    go_wp2_with fail
    refine HE.out.mono ?_
    rintro e w2 ⟨rfl, hB⟩
    have BW := hid (B1.out.trans (hB.mono B1.out.size))
    clear hB HE
    go_wp2_with fail
    go_ret
    exact ⟨ret_bool (by rw [hsm.out]), BW.out⟩
  · have hsm := hid (show sameL l1 l2 t1 t2 = false by simp [sameL, ht])
    have htb : (t1 == t2) = false := by simp [ht]
    go_wp2_with fail
    go_ret
    exact ⟨ret_bool (by rw [hsm.out]), B1.out⟩
end Go.Proofs.YtgbgcmhmlnmklaaGreatDoor
namespace Go.Proofs.YtgbgcmhmlnmklaaGreatDoor
open Go.RowKit Go.IntWalk Go.Shelf

set_option maxRecDepth 100000 in
set_option maxHeartbeats 40000000 in
theorem ltells_any (W H D : Int) (Ak Ao : Option Addr) (ck co : Nat) (kind out : List Int) (Ar Al Am : Option Addr) (cr cl cm : Nat) (r : List Int) (l m : List Bool) (t u sa sb n k rk : Int) (s : ByteArray) (w : World) (hkl : kind.length ≤ maxLen) (hol : out.length ≤ maxLen) (hrl : r.length ≤ maxLen) (hll : l.length ≤ maxLen) (hml : m.length ≤ maxLen)
    (hk : SlR w w.heap.size Ak kind) (ho : SlR w w.heap.size Ao out) (hr : SlR w w.heap.size Ar r) (hL : SlR w w.heap.size Al l) (hM : SlR w w.heap.size Am m) (he : Env w) :
    Calls Tryz.prog 3 #[.agg #[.int .i64 W, .int .i64 H, .int .i64 D, .slice Ak kind.length ck, .slice Ao out.length co], .slice Ar r.length cr, .agg #[.slice Al l.length cl, .int .i64 t], .agg #[.slice Am m.length cm, .int .i64 u], .agg #[.int .i64 sa, .int .i64 sb], .int .i64 n, .int .i64 k, .int .i64 rk, .string s] w fun e w' => e = .returned (.bool true) ∧ Below w.heap.size w w' := by
  obtain ⟨w1, hw1⟩ : ∃ w1, w1 = ((((w.alloc (Obj.cells #[Value.int .i64 W, Value.int .i64 H, Value.int .i64 D, Value.slice Ak kind.length ck, Value.slice Ao out.length co] 24)).alloc (Obj.cells #[.slice Al l.length cl, .int .i64 t] 27)).alloc (Obj.cells #[.slice Am m.length cm, .int .i64 u] 27)).alloc (Obj.cells #[.int .i64 sa, .int .i64 sb] 29)) := ⟨_, rfl⟩
  have B1 := hid (show Below w.heap.size w w1 by rw [hw1]; (repeat (first | exact Below.refl _ _ | assumption | refine below_drewN ?_ _ | refine Below.drew ?_ | refine Below.alloc ?_ (by (try simp); (try omega)) _ | refine Below.setCell ?_ (by (try simp); (try omega)) _)))
  have X1 := (show Blk w1 w.heap.size 24 #[Value.int .i64 W, Value.int .i64 H, Value.int .i64 D, Value.slice Ak kind.length ck, Value.slice Ao out.length co] by rw [hw1]; exact (((Blk.new w _ _).alloc _).alloc _).alloc _)
  have X2 := (show Blk w1 (w.heap.size + 1) 27 #[.slice Al l.length cl, .int .i64 t] by rw [hw1]; exact ((Blk.new_at (by simp)).alloc _).alloc _)
  have X3 := (show Blk w1 (w.heap.size + 1 + 1) 27 #[.slice Am m.length cm, .int .i64 u] by rw [hw1]; exact (Blk.new_at (by simp)).alloc _)
  have X4 := (show Blk w1 (w.heap.size + 1 + 1 + 1) 29 #[.int .i64 sa, .int .i64 sb] by rw [hw1]; exact Blk.new_at (by simp))
  have HX := hid (fun (W' : World) (hW : Below w1.heap.size w1 W') => And.intro (show W'.cell? ⟨w.heap.size + 1, 0, none⟩ = some (.slice Al l.length cl) from (bcell hW _ _ X2.lt).trans (by rw [X2.cell]; rfl)) (And.intro (show W'.cell? ⟨w.heap.size + 1, 1, none⟩ = some (.int .i64 t) from (bcell hW _ _ X2.lt).trans (by rw [X2.cell]; rfl)) (And.intro (show W'.cell? ⟨w.heap.size + 1 + 1, 0, none⟩ = some (.slice Am m.length cm) from (bcell hW _ _ X3.lt).trans (by rw [X3.cell]; rfl)) (show W'.cell? ⟨w.heap.size + 1 + 1, 1, none⟩ = some (.int .i64 u) from (bcell hW _ _ X3.lt).trans (by rw [X3.cell]; rfl)))))
  have HXS := hid (fun (W' : World) (hW : Below w1.heap.size w1 W') => And.intro (show W'.cell? ⟨w.heap.size + 1 + 1 + 1, 0, none⟩ = some (.int .i64 sa) from (bcell hW _ _ X4.lt).trans (by rw [X4.cell]; rfl)) (show W'.cell? ⟨w.heap.size + 1 + 1 + 1, 1, none⟩ = some (.int .i64 sb) from (bcell hW _ _ X4.lt).trans (by rw [X4.cell]; rfl)))
  have HXF := hid (fun (W' : World) (hW : Below w1.heap.size w1 W') => blk5 (X1.below hW X1.lt))
  have HSM := hid (small_any w1)
  have HE := hid (fun (W' : World) (hW : Below w1.heap.size w1 W') => (he.below (B1.out.trans (hW.mono B1.out.size)) : Env W'))
  have HK := hid (fun (W' : World) (hW : Below w1.heap.size w1 W') => show SlR W' W'.heap.size Ak kind from (hk.below (B1.out.trans (hW.mono B1.out.size))).more (B1.out.trans (hW.mono B1.out.size)).size)
  have HO := hid (fun (W' : World) (hW : Below w1.heap.size w1 W') => show SlR W' W'.heap.size Ao out from (ho.below (B1.out.trans (hW.mono B1.out.size))).more (B1.out.trans (hW.mono B1.out.size)).size)
  have HR := hid (fun (W' : World) (hW : Below w1.heap.size w1 W') => show SlR W' W'.heap.size Ar r from (hr.below (B1.out.trans (hW.mono B1.out.size))).more (B1.out.trans (hW.mono B1.out.size)).size)
  have HL := hid (fun (W' : World) (hW : Below w1.heap.size w1 W') => show SlR W' W'.heap.size Al l from (hL.below (B1.out.trans (hW.mono B1.out.size))).more (B1.out.trans (hW.mono B1.out.size)).size)
  have HM := hid (fun (W' : World) (hW : Below w1.heap.size w1 W') => show SlR W' W'.heap.size Am m from (hM.below (B1.out.trans (hW.mono B1.out.size))).more (B1.out.trans (hW.mono B1.out.size)).size)
  have HGV := hid (fun (W' : World) (hW : Below w1.heap.size w1 W') => given_any W H D Ak Ao ck co kind out Ar Al cr cl r l t W' hkl hol hrl hll (HK.out W' hW) (HO.out W' hW) (HR.out W' hW) (HL.out W' hW))
  have HRP := hid (fun (W' : World) (hW : Below w1.heap.size w1 W') => right_any Al cl l t W' hll (HL.out W' hW))
  have HRR := hid (fun (W' : World) (hW : Below w1.heap.size w1 W') => right_r Al cl l t W' hll (HL.out W' hW))
  have HSP := hid (fun (W' : World) (hW : Below w1.heap.size w1 W') => lsame_any Al Am cl cm l m t u W' hll hml (HL.out W' hW) (HM.out W' hW))
  have HSR := hid (fun (W' : World) (hW : Below w1.heap.size w1 W') => same_any Al Am cl cm l m t u W' hll hml (HL.out W' hW) (HM.out W' hW))
  have HHP := hid (fun (W' : World) (hW : Below w1.heap.size w1 W') => shelves_any Al cl l t W' hll (HL.out W' hW))
  have HHR := hid (fun (W' : World) (hW : Below w1.heap.size w1 W') => shelves_r Al cl l t W' hll (HL.out W' hW))
  have HCP := hid (fun (W' : World) => count_any n k W')
  have HCR := hid (fun (W' : World) => count_r n k W')
  have hgf := hid (fun (h : givenN W H D kind out r l t = true) => show RF W H D kind out ∧ r.Pairwise (· < ·) ∧ rightL l t = true ∧ r.length = l.length from by
    simp only [givenN, Bool.and_eq_true, decide_eq_true_eq] at h
    exact ⟨refR_iff.1 h.1.2, ascR_pw h.2, h.1.1.1.2, h.1.1.2⟩)
  have HMX := hid (And.intro hll hml)
  clear hkl hol hrl hll hml hk ho hr hL hM he X1 X2 X3 X4
  generalize givenN W H D kind out r l t = gv at *
  generalize sameL l m t u = slm at *
  generalize countL n k = cnk at *
  go_enter Tryz.func3, Tryz.ntmps3
  go_upto_region 1 with fail
  rw [← hw1]
  clear hw1
  go_wp2_with fail
  refine HSM.out.mono ?_
  rintro e w2 ⟨rfl, hB⟩
  have B2 := hid hB
  clear hB HSM
  obtain ⟨l0, l1, m0, m1⟩ := HX.out w2 B2.out
  by_cases hl40 : (40 : Int) < l.length
  case pos =>
    as_aux_lemma =>
      go_wp2_with fail
      go_ret
      exact ⟨rfl, B1.out.trans (B2.out.mono B1.out.size)⟩
  by_cases hm40 : (40 : Int) < m.length
  case pos =>
    as_aux_lemma =>
      go_wp2_with fail
      go_ret
      exact ⟨rfl, B1.out.trans (B2.out.mono B1.out.size)⟩
  by_cases hs200 : (200 : Int) < s.size
  case pos =>
    as_aux_lemma =>
      go_wp2_with fail
      go_ret
      exact ⟨rfl, B1.out.trans (B2.out.mono B1.out.size)⟩
  obtain ⟨fa, ta, ok, hfa, HU0, HV0⟩ := unrank_both n k rk
  obtain ⟨fc, tc, rd, hfc, HP0, HQ0⟩ := read_both s (by omega)
  have HU := hid HU0
  have HV := hid HV0
  have HP := hid HP0
  have HQ := hid HQ0
  have HFA := hid hfa
  have HFC := hid hfc
  clear HU0 HV0 HP0 HQ0 hfa hfc
  go_wp2_with fail
  refine ((HU.out _)).mono ?_
  rintro e w3 ⟨A3, c3, rfl, hs, hB⟩
  have B3 := hid (B2.out.trans (hB.mono B2.out.size))
  have XA := hid (Bx.mk' c3 ta hs)
  have hBb := Below.alloc (Below.refl w3.heap.size w3) (Nat.le_refl _) (Obj.cells #[.slice A3 fa.length c3, .int .i64 ta] 27)
  have B4 := hid (B3.out.alloc B3.out.size (Obj.cells #[.slice A3 fa.length c3, .int .i64 ta] 27))
  clear hs hB hBb B3
  clear l0 l1 m0 m1

  have hgn : ∃ gA, gA = w3.heap.size := ⟨_, rfl⟩
  obtain ⟨gA, hgA⟩ := hgn
  rw [← hgA] at XA
  go_upto_region 5 with fail
  (try rw [← hgA])
  clear hgA
  generalize (w3.alloc (Obj.cells #[.slice A3 fa.length c3, .int .i64 ta] 27)) = w4 at *
  go_wp2_with fail
  refine ((HV.out _)).mono ?_
  rintro e w5 ⟨A5, c5, rfl, hs, hB⟩
  have B5 := hid (B4.out.trans (hB.mono B4.out.size))
  replace XA := hid (XA.out.step hB)
  have XB := hid (Bx.mk' c5 ta hs)
  have hBb := Below.alloc (Below.refl w5.heap.size w5) (Nat.le_refl _) (Obj.cells #[.slice A5 fa.length c5, .int .i64 ta] 27)
  replace XA := hid (XA.out.step hBb)
  have B6 := hid (B5.out.alloc B5.out.size (Obj.cells #[.slice A5 fa.length c5, .int .i64 ta] 27))
  clear hs hB hBb B5

  have hgn : ∃ gB, gB = w5.heap.size := ⟨_, rfl⟩
  obtain ⟨gB, hgB⟩ := hgn
  rw [← hgB] at XB
  go_upto_region 6 with fail
  (try rw [← hgB])
  clear hgB
  generalize (w5.alloc (Obj.cells #[.slice A5 fa.length c5, .int .i64 ta] 27)) = w6 at *
  go_wp2_with fail
  refine ((HP.out _ (HE.out _ B6.out))).mono ?_
  rintro e w7 ⟨A7, c7, rfl, hs, hB⟩
  have B7 := hid (B6.out.trans (hB.mono B6.out.size))
  replace XA := hid (XA.out.step hB)
  replace XB := hid (XB.out.step hB)
  have XC := hid (Bx.mk' c7 tc hs)
  have hBb := Below.alloc (Below.refl w7.heap.size w7) (Nat.le_refl _) (Obj.cells #[.slice A7 fc.length c7, .int .i64 tc] 27)
  replace XA := hid (XA.out.step hBb)
  replace XB := hid (XB.out.step hBb)
  have B8 := hid (B7.out.alloc B7.out.size (Obj.cells #[.slice A7 fc.length c7, .int .i64 tc] 27))
  clear hs hB hBb B7

  have hgn : ∃ gC, gC = w7.heap.size := ⟨_, rfl⟩
  obtain ⟨gC, hgC⟩ := hgn
  rw [← hgC] at XC
  go_upto_region 7 with fail
  (try rw [← hgC])
  clear hgC
  generalize (w7.alloc (Obj.cells #[.slice A7 fc.length c7, .int .i64 tc] 27)) = w8 at *
  go_wp2_with fail
  refine ((HQ.out _)).mono ?_
  rintro e w9 ⟨A9, c9, rfl, hs, hB⟩
  have B9 := hid (B8.out.trans (hB.mono B8.out.size))
  replace XA := hid (XA.out.step hB)
  replace XB := hid (XB.out.step hB)
  replace XC := hid (XC.out.step hB)
  have XD := hid (Bx.mk' c9 tc hs)
  have hBb := Below.alloc (Below.refl w9.heap.size w9) (Nat.le_refl _) (Obj.cells #[.slice A9 fc.length c9, .int .i64 tc] 27)
  replace XA := hid (XA.out.step hBb)
  replace XB := hid (XB.out.step hBb)
  replace XC := hid (XC.out.step hBb)
  have B10 := hid (B9.out.alloc B9.out.size (Obj.cells #[.slice A9 fc.length c9, .int .i64 tc] 27))
  clear hs hB hBb B9

  have hgn : ∃ gD, gD = w9.heap.size := ⟨_, rfl⟩
  obtain ⟨gD, hgD⟩ := hgn
  rw [← hgD] at XD
  go_upto_region 8 with fail
  (try rw [← hgD])
  clear hgD
  generalize (w9.alloc (Obj.cells #[.slice A9 fc.length c9, .int .i64 tc] 27)) = w10 at *
  obtain ⟨a0, a1⟩ := XA.out.cells
  obtain ⟨b0, b1⟩ := XB.out.cells
  have HS1 := hid (same_any A3 A5 c3 c5 fa fa ta ta w10 HFA.out HFA.out XA.out.s XB.out.s)
  rw [show sameL fa fa ta ta = true by simp [sameL]] at HS1
  go_wp2_with fail
  refine HS1.out.mono ?_
  rintro e w11 ⟨rfl, hB⟩
  have B11 := hid (B10.out.trans (hB.mono B10.out.size))
  have XC2 := hid (XC.out.step hB)
  have XD2 := hid (XD.out.step hB)
  clear a0 a1 b0 b1 HS1 hB XA XB XC XD B10
  obtain ⟨a0, a1⟩ := XC2.out.cells
  obtain ⟨b0, b1⟩ := XD2.out.cells
  have HS1 := hid (same_any A7 A9 c7 c9 fc fc tc tc w11 HFC.out HFC.out XC2.out.s XD2.out.s)
  rw [show sameL fc fc tc tc = true by simp [sameL]] at HS1
  go_wp2_with fail
  refine HS1.out.mono ?_
  rintro e w12 ⟨rfl, hB⟩
  have B12 := hid (B11.out.trans (hB.mono B11.out.size))
  clear a0 a1 b0 b1 HS1 hB XC2 XD2 B11
  go_wp2_with fail
  refine (HCP.out _).mono ?_
  rintro e w13 ⟨rfl, hB⟩
  have B13 := hid (B12.out.trans (hB.mono B12.out.size))
  clear hB B12
  go_wp2_with fail
  refine (HCR.out _).mono ?_
  rintro e w13b ⟨rfl, rfl⟩
  go_upto_region 10 with fail
  have BD := hid B13.out.drew
  refine wpIn_wide.1 (wpIn_region_S (n := 0) (fun wq => Below w1.heap.size w1 wq) [] (by kernel_rfl) BD.out (fun hHeld => ?_))
  have HSF := HX
  generalize w13.drew = wd at *
  generalize hrt : rightL l t = rt at *
  refine wpAnyG_take 0 (v := ?_) (fun _ => trivial) (by simp only [List.getElem?_toArray, List.getElem?_cons_succ, List.getElem?_cons_zero]; rfl) (by kernel_rfl) (fun _ _ _ _ _ h => h) ⟨(by rfl), (by intro c h; cases h), ?_⟩ hHeld ?_
  rotate_left
  focus (intro wS hSw; (try replace hSw := HSF.out wS hSw); (try dsimp only at hSw); go_simp; (try with_reducible rfl))
  (try simp only [Act.put, List.setIfInBounds_toArray, List.set_cons_zero, List.set_cons_succ])
  refine wpAnyG_take 2 (v := ?_) (fun _ => trivial) (by simp only [List.getElem?_toArray, List.getElem?_cons_succ, List.getElem?_cons_zero]; rfl) (by kernel_rfl) (fun _ _ _ _ _ h => h) ⟨(by rfl), (by intro c h; cases h), ?_⟩ hHeld ?_
  rotate_left
  focus (intro wS hSw; (try replace hSw := HSF.out wS hSw); (try dsimp only at hSw); go_simp; (try with_reducible rfl))
  (try simp only [Act.put, List.setIfInBounds_toArray, List.set_cons_zero, List.set_cons_succ])
  refine wpAnyS_ready [1] (by kernel_rfl) (by simp) (AllReadyS.consG (by simp only [List.getElem?_toArray, List.getElem?_cons_succ, List.getElem?_cons_zero]; rfl) (by rfl) (fun K hK => ?_) AllReadyS.nil)
  refine callS (by intro c h; cases h) (by go_simp; try with_reducible rfl) (HRP.out _ BD.out) ?_
  intro wa hBq
  have Ba := hid (BD.out.trans (hBq.mono BD.out.size))
  refine hK.out _ _ Ba.out ?_
  (try simp only [Act.put, List.setIfInBounds_toArray, List.set_cons_zero, List.set_cons_succ])
  clear hK K hBq
  clear hHeld
  have hHeld := Ba.out
  refine wpAnyS_ready [3] (by kernel_rfl) (by simp) (AllReadyS.consG (by simp only [List.getElem?_toArray, List.getElem?_cons_succ, List.getElem?_cons_zero]; rfl) (by rfl) (fun K hK => ?_) AllReadyS.nil)
  refine callS (by intro c h; cases h) (by go_simp; try with_reducible rfl) (HRR.out _ Ba.out) ?_
  intro wb hBq
  have Bb := hid (Ba.out.trans (hBq.mono Ba.out.size))
  refine hK.out _ _ Bb.out ?_
  (try simp only [Act.put, List.setIfInBounds_toArray, List.set_cons_zero, List.set_cons_succ])
  clear hK K hBq
  clear hHeld
  have hHeld := Bb.out
  refine wpAnyG_pure 4 (v := ?_) (fun _ => trivial) (by simp only [List.getElem?_toArray, List.getElem?_cons_succ, List.getElem?_cons_zero]; rfl) (by kernel_rfl) (fun _ _ _ _ _ h => h) ⟨(by rfl), (by intro c h; cases h), ?_⟩ hHeld ?_
  rotate_left
  focus (intro wS hSw; (try replace hSw := HSF.out wS hSw); (try dsimp only at hSw); go_simp; (try with_reducible rfl))
  (try simp only [Act.put, List.setIfInBounds_toArray, List.set_cons_zero, List.set_cons_succ])
  refine wpAnyG_pure 5 (v := ?_) (fun _ => trivial) (by simp only [List.getElem?_toArray, List.getElem?_cons_succ, List.getElem?_cons_zero]; rfl) (by kernel_rfl) (fun _ _ _ _ _ h => h) ⟨(by rfl), (by intro c h; cases h), ?_⟩ hHeld ?_
  rotate_left
  focus (intro wS hSw; (try replace hSw := HSF.out wS hSw); (try dsimp only at hSw); go_simp; (try with_reducible rfl))
  (try simp only [Act.put, List.setIfInBounds_toArray, List.set_cons_zero, List.set_cons_succ])
  refine wpAnyG_take 6 (v := ?_) (fun _ => trivial) (by simp only [List.getElem?_toArray, List.getElem?_cons_succ, List.getElem?_cons_zero]; rfl) (by kernel_rfl) (fun _ _ _ _ _ h => h) ⟨(by rfl), (by intro c h; cases h), ?_⟩ hHeld ?_
  rotate_left
  focus (intro wS hSw; (try replace hSw := HSF.out wS hSw); (try dsimp only at hSw); go_simp; (try with_reducible rfl))
  (try simp only [Act.put, List.setIfInBounds_toArray, List.set_cons_zero, List.set_cons_succ])
  refine wpAnyG_take 7 (v := ?_) (fun _ => trivial) (by simp only [List.getElem?_toArray, List.getElem?_cons_succ, List.getElem?_cons_zero]; rfl) (by kernel_rfl) (fun _ _ _ _ _ h => h) ⟨(by rfl), (by intro c h; cases h), ?_⟩ hHeld ?_
  rotate_left
  focus (intro wS hSw; (try replace hSw := HSF.out wS hSw); (try dsimp only at hSw); go_simp; (try with_reducible rfl))
  (try simp only [Act.put, List.setIfInBounds_toArray, List.set_cons_zero, List.set_cons_succ])
  refine wpAnyG_take 9 (v := ?_) (fun _ => trivial) (by simp only [List.getElem?_toArray, List.getElem?_cons_succ, List.getElem?_cons_zero]; rfl) (by kernel_rfl) (fun _ _ _ _ _ h => h) ⟨(by rfl), (by intro c h; cases h), ?_⟩ hHeld ?_
  rotate_left
  focus (intro wS hSw; (try replace hSw := HSF.out wS hSw); (try dsimp only at hSw); go_simp; (try with_reducible rfl))
  (try simp only [Act.put, List.setIfInBounds_toArray, List.set_cons_zero, List.set_cons_succ])
  refine wpAnyG_take 10 (v := ?_) (fun _ => trivial) (by simp only [List.getElem?_toArray, List.getElem?_cons_succ, List.getElem?_cons_zero]; rfl) (by kernel_rfl) (fun _ _ _ _ _ h => h) ⟨(by rfl), (by intro c h; cases h), ?_⟩ hHeld ?_
  rotate_left
  focus (intro wS hSw; (try replace hSw := HSF.out wS hSw); (try dsimp only at hSw); go_simp; (try with_reducible rfl))
  (try simp only [Act.put, List.setIfInBounds_toArray, List.set_cons_zero, List.set_cons_succ])
  refine wpAnyS_ready [8] (by kernel_rfl) (by simp) (AllReadyS.consG (by simp only [List.getElem?_toArray, List.getElem?_cons_succ, List.getElem?_cons_zero]; rfl) (by rfl) (fun K hK => ?_) AllReadyS.nil)
  refine callS (by intro c h; cases h) (by go_simp; try with_reducible rfl) (HSP.out _ Bb.out) ?_
  intro wc9 hBq
  have Bc := hid (Bb.out.trans (hBq.mono Bb.out.size))
  refine hK.out _ _ Bc.out ?_
  (try simp only [Act.put, List.setIfInBounds_toArray, List.set_cons_zero, List.set_cons_succ])
  clear hK K hBq
  clear hHeld
  have hHeld := Bc.out
  refine wpAnyS_ready [11] (by kernel_rfl) (by simp) (AllReadyS.consG (by simp only [List.getElem?_toArray, List.getElem?_cons_succ, List.getElem?_cons_zero]; rfl) (by rfl) (fun K hK => ?_) AllReadyS.nil)
  refine callS (by intro c h; cases h) (by go_simp; try with_reducible rfl) (HSR.out _ Bc.out) ?_
  intro wd9 hBq
  have Bd := hid (Bc.out.trans (hBq.mono Bc.out.size))
  refine hK.out _ _ Bd.out ?_
  (try simp only [Act.put, List.setIfInBounds_toArray, List.set_cons_zero, List.set_cons_succ])
  clear hK K hBq
  clear hHeld
  have hHeld := Bd.out
  refine wpAnyG_pure 12 (v := ?_) (fun _ => trivial) (by simp only [List.getElem?_toArray, List.getElem?_cons_succ, List.getElem?_cons_zero]; rfl) (by kernel_rfl) (fun _ _ _ _ _ h => h) ⟨(by rfl), (by intro c h; cases h), ?_⟩ hHeld ?_
  rotate_left
  focus (intro wS hSw; (try replace hSw := HSF.out wS hSw); (try dsimp only at hSw); go_simp; (try with_reducible rfl))
  (try simp only [Act.put, List.setIfInBounds_toArray, List.set_cons_zero, List.set_cons_succ])
  refine wpAnyG_pure 13 (v := ?_) (fun _ => trivial) (by simp only [List.getElem?_toArray, List.getElem?_cons_succ, List.getElem?_cons_zero]; rfl) (by kernel_rfl) (fun _ _ _ _ _ h => h) ⟨(by rfl), (by intro c h; cases h), ?_⟩ hHeld ?_
  rotate_left
  focus (intro wS hSw; (try replace hSw := HSF.out wS hSw); (try dsimp only at hSw); go_simp; (try with_reducible rfl))
  (try simp only [Act.put, List.setIfInBounds_toArray, List.set_cons_zero, List.set_cons_succ])
  refine wpAnyG_pure 14 (v := ?_) (fun _ => trivial) (by simp only [List.getElem?_toArray, List.getElem?_cons_succ, List.getElem?_cons_zero]; rfl) (by kernel_rfl) (fun _ _ _ _ _ h => h) ⟨(by rfl), (by intro c h; cases h), ?_⟩ hHeld ?_
  rotate_left
  focus (intro wS hSw; (try replace hSw := HSF.out wS hSw); (try dsimp only at hSw); go_simp; (try with_reducible rfl))
  (try simp only [Act.put, List.setIfInBounds_toArray, List.set_cons_zero, List.set_cons_succ])
  refine wpAnyG_take 15 (v := ?_) (fun _ => trivial) (by simp only [List.getElem?_toArray, List.getElem?_cons_succ, List.getElem?_cons_zero]; rfl) (by kernel_rfl) (fun _ _ _ _ _ h => h) ⟨(by rfl), (by intro c h; cases h), ?_⟩ hHeld ?_
  rotate_left
  focus (intro wS hSw; (try replace hSw := HSF.out wS hSw); (try dsimp only at hSw); go_simp; (try with_reducible rfl))
  (try simp only [Act.put, List.setIfInBounds_toArray, List.set_cons_zero, List.set_cons_succ])
  refine wpAnyG_take 17 (v := ?_) (fun _ => trivial) (by simp only [List.getElem?_toArray, List.getElem?_cons_succ, List.getElem?_cons_zero]; rfl) (by kernel_rfl) (fun _ _ _ _ _ h => h) ⟨(by rfl), (by intro c h; cases h), ?_⟩ hHeld ?_
  rotate_left
  focus (intro wS hSw; (try replace hSw := HSF.out wS hSw); (try dsimp only at hSw); go_simp; (try with_reducible rfl))
  (try simp only [Act.put, List.setIfInBounds_toArray, List.set_cons_zero, List.set_cons_succ])
  refine wpAnyS_ready [16] (by kernel_rfl) (by simp) (AllReadyS.consG (by simp only [List.getElem?_toArray, List.getElem?_cons_succ, List.getElem?_cons_zero]; rfl) (by rfl) (fun K hK => ?_) AllReadyS.nil)
  refine callS (by intro c h; cases h) (by go_simp; try with_reducible rfl) (HHP.out _ Bd.out) ?_
  intro we9 hBq
  have Be := hid (Bd.out.trans (hBq.mono Bd.out.size))
  refine hK.out _ _ Be.out ?_
  (try simp only [Act.put, List.setIfInBounds_toArray, List.set_cons_zero, List.set_cons_succ])
  clear hK K hBq
  clear hHeld
  have hHeld := Be.out
  refine wpAnyS_ready [18] (by kernel_rfl) (by simp) (AllReadyS.consG (by simp only [List.getElem?_toArray, List.getElem?_cons_succ, List.getElem?_cons_zero]; rfl) (by rfl) (fun K hK => ?_) AllReadyS.nil)
  refine callS (by intro c h; cases h) (by go_simp; try with_reducible rfl) (HHR.out _ Be.out) ?_
  intro wf9 hBq
  have Bf := hid (Be.out.trans (hBq.mono Be.out.size))
  refine hK.out _ _ Bf.out ?_
  (try simp only [Act.put, List.setIfInBounds_toArray, List.set_cons_zero, List.set_cons_succ])
  clear hK K hBq
  clear hHeld
  have hHeld := Bf.out
  refine wpAnyG_pure 19 (v := ?_) (fun _ => trivial) (by simp only [List.getElem?_toArray, List.getElem?_cons_succ, List.getElem?_cons_zero]; rfl) (by kernel_rfl) (fun _ _ _ _ _ h => h) ⟨(by rfl), (by intro c h; cases h), ?_⟩ hHeld ?_
  rotate_left
  focus (intro wS hSw; (try replace hSw := HSF.out wS hSw); (try dsimp only at hSw); go_simp; (try with_reducible rfl))
  (try simp only [Act.put, List.setIfInBounds_toArray, List.set_cons_zero, List.set_cons_succ])
  refine wpAnyG_pure 20 (v := ?_) (fun _ => trivial) (by simp only [List.getElem?_toArray, List.getElem?_cons_succ, List.getElem?_cons_zero]; rfl) (by kernel_rfl) (fun _ _ _ _ _ h => h) ⟨(by rfl), (by intro c h; cases h), ?_⟩ hHeld ?_
  rotate_left
  focus (intro wS hSw; (try replace hSw := HSF.out wS hSw); (try dsimp only at hSw); go_simp; (try with_reducible rfl))
  (try simp only [Act.put, List.setIfInBounds_toArray, List.set_cons_zero, List.set_cons_succ])
  refine wpAnyS_done (by kernel_rfl) ?_
  clear hHeld HSF BD Ba Bb Bc Bd Be
  obtain ⟨l0, l1, m0, m1⟩ := HX.out wf9 Bf.out
  go_wp2_with fail
  refine (HRR.out _ Bf.out).mono ?_
  rintro e w14 ⟨rfl, hB⟩
  have B14 := hid (Bf.out.trans (hB.mono Bf.out.size))
  clear hB l0 l1 m0 m1 Bf
  cases rt with
  | false =>
    as_aux_lemma =>
      go_wp2_with fail
      go_ret
      exact ⟨rfl, B1.out.trans (B14.out.mono B1.out.size)⟩
  | true =>
  have hrf := (rightL_iff l t).1 hrt
  have hl24 : l.length ≤ 24 := hrf.2.1
  obtain ⟨t', rfl⟩ := Int.eq_ofNat_of_zero_le (show 0 ≤ t by omega)
  have hRN := hid (show RightN l t' from ⟨hrf.1, hrf.2.1, by omega, by
    have h1 : t' < l.length := by omega
    unfold rightL at hrt
    simp only [Bool.and_eq_true, Int.toNat_natCast] at hrt
    have := hrt.2
    rwa [List.getD_eq_getElem?_getD, List.getElem?_eq_getElem h1] at this⟩)
  have hI : I64 (t' : Int) := ⟨by omega, by omega⟩
  obtain ⟨fx, tx, ec, hfx, HD0, HF0⟩ := do_both Al cl l t' sa sb hl24
  have HD := hid HD0
  have HF := hid HF0
  have HFX := hid hfx
  clear HD0 HF0 hfx hrf hrt
  obtain ⟨l0, l1, m0, m1⟩ := HX.out w14 B14.out
  obtain ⟨s0, s1⟩ := HXS.out w14 B14.out
  go_wp2_with fail
  refine (HD.out _ (HL.out _ B14.out)).mono ?_
  rintro e w15 ⟨A15, c15, rfl, hs, hB⟩
  have B15 := hid (B14.out.trans (hB.mono B14.out.size))
  have XA := hid (Bx.mk' c15 tx hs)
  have B16 := hid (B15.out.alloc B15.out.size (Obj.cells #[.slice A15 fx.length c15, .int .i64 tx] 27))
  clear hs hB B15 l0 l1 m0 m1 s0 s1
  obtain ⟨gA, hgA⟩ : ∃ gA, gA = w15.heap.size := ⟨_, rfl⟩
  rw [← hgA] at XA
  go_upto_region 15 with fail
  (try rw [← hgA])
  clear hgA
  generalize (w15.alloc (Obj.cells #[.slice A15 fx.length c15, .int .i64 tx] 27)) = w16 at *
  obtain ⟨l0, l1, m0, m1⟩ := HX.out w16 B16.out
  obtain ⟨s0, s1⟩ := HXS.out w16 B16.out
  go_wp2_with fail
  refine (HF.out _ (HL.out _ B16.out)).mono ?_
  rintro e w17 ⟨A17, c17, rfl, hs, hB⟩
  have B17 := hid (B16.out.trans (hB.mono B16.out.size))
  replace XA := hid (XA.out.step hB)
  have XB := hid (Bx.mk' c17 tx hs)
  have hBb := Below.alloc (Below.refl w17.heap.size w17) (Nat.le_refl _) (Obj.cells #[.slice A17 fx.length c17, .int .i64 tx] 27)
  replace XA := hid (XA.out.step hBb)
  have B18 := hid (B17.out.alloc B17.out.size (Obj.cells #[.slice A17 fx.length c17, .int .i64 tx] 27))
  clear hs hB hBb B17 l0 l1 m0 m1 s0 s1
  obtain ⟨gB, hgB⟩ : ∃ gB, gB = w17.heap.size := ⟨_, rfl⟩
  rw [← hgB] at XB
  go_upto_region 16 with fail
  (try rw [← hgB])
  clear hgB HD HF B16
  generalize (w17.alloc (Obj.cells #[.slice A17 fx.length c17, .int .i64 tx] 27)) = w18 at *
  have HSF := hid (fun (wq : World) (hq : Below w18.heap.size w18 wq) => And.intro (HX.out wq (B18.out.trans (hq.mono B18.out.size))) (And.intro (XA.out.step hq).cells (XB.out.step hq).cells))
  have HS1 := hid (fun (wq : World) (hq : Below w18.heap.size w18 wq) => show Calls Tryz.prog 9 #[.agg #[.slice A15 fx.length c15, .int .i64 tx], .agg #[.slice A17 fx.length c17, .int .i64 tx]] wq fun e w' => e = .returned (.bool true) ∧ Below wq.heap.size wq w' from by
    have := same_any A15 A17 c15 c17 fx fx tx tx wq HFX.out HFX.out (XA.out.step hq).s (XB.out.step hq).s
    rwa [show sameL fx fx tx tx = true by simp [sameL]] at this)
  have HLq := hid (fun (wq : World) (hq : Below w18.heap.size w18 wq) => HL.out wq (B18.out.trans (hq.mono B18.out.size)))
  have HEq := hid (fun (wq : World) (hq : Below w18.heap.size w18 wq) => HE.out wq (B18.out.trans (hq.mono B18.out.size)))
  have HNP := hid (fun (wq : World) (hq : Below w18.heap.size w18 wq) => rank_any Al cl l t' wq (HLq.out wq hq) hRN.out)
  have HNR := hid (fun (wq : World) (hq : Below w18.heap.size w18 wq) => rank_r Al cl l t' wq (HLq.out wq hq) hRN.out)
  have HBP := hid (fun (wq : World) (hq : Below w18.heap.size w18 wq) => lbytes_any Al cl l t' wq hl24 (HLq.out wq hq) hI (HEq.out wq hq))
  have HBR := hid (fun (wq : World) (hq : Below w18.heap.size w18 wq) => rlbytes_any Al cl l t' wq hl24 (HLq.out wq hq) hI)
  clear XA XB HLq HEq
  generalize rankN l t' = rkn at *
  generalize bs (encLay l t') = bb at *
  have BD := hid (Below.refl w18.heap.size w18).drew
  refine wpIn_wide.1 (wpIn_region_S (n := 0) (fun wq => Below w18.heap.size w18 wq) [] (by kernel_rfl) BD.out (fun hHeld => ?_))
  generalize w18.drew = wd at *
  refine wpAnyG_pure 0 (v := ?_) (fun _ => trivial) (by simp only [List.getElem?_toArray, List.getElem?_cons_succ, List.getElem?_cons_zero]; rfl) (by kernel_rfl) (fun _ _ _ _ _ h => h) ⟨(by rfl), (by intro c h; cases h), ?_⟩ hHeld ?_
  rotate_left
  focus (intro wS hSw; (try replace hSw := HSF.out wS hSw); (try dsimp only at hSw); go_simp; (try with_reducible rfl))
  (try simp only [Act.put, List.setIfInBounds_toArray, List.set_cons_zero, List.set_cons_succ])
  refine wpAnyG_pure 1 (v := ?_) (fun _ => trivial) (by simp only [List.getElem?_toArray, List.getElem?_cons_succ, List.getElem?_cons_zero]; rfl) (by kernel_rfl) (fun _ _ _ _ _ h => h) ⟨(by rfl), (by intro c h; cases h), ?_⟩ hHeld ?_
  rotate_left
  focus (intro wS hSw; (try replace hSw := HSF.out wS hSw); (try dsimp only at hSw); go_simp; (try with_reducible rfl))
  (try simp only [Act.put, List.setIfInBounds_toArray, List.set_cons_zero, List.set_cons_succ])
  refine wpAnyG_pure 2 (v := ?_) (fun _ => trivial) (by simp only [List.getElem?_toArray, List.getElem?_cons_succ, List.getElem?_cons_zero]; rfl) (by kernel_rfl) (fun _ _ _ _ _ h => h) ⟨(by rfl), (by intro c h; cases h), ?_⟩ hHeld ?_
  rotate_left
  focus (intro wS hSw; (try replace hSw := HSF.out wS hSw); (try dsimp only at hSw); go_simp; (try with_reducible rfl))
  (try simp only [Act.put, List.setIfInBounds_toArray, List.set_cons_zero, List.set_cons_succ])
  refine wpAnyG_pure 3 (v := ?_) (fun _ => trivial) (by simp only [List.getElem?_toArray, List.getElem?_cons_succ, List.getElem?_cons_zero]; rfl) (by kernel_rfl) (fun _ _ _ _ _ h => h) ⟨(by rfl), (by intro c h; cases h), ?_⟩ hHeld ?_
  rotate_left
  focus (intro wS hSw; (try replace hSw := HSF.out wS hSw); (try dsimp only at hSw); go_simp; (try with_reducible rfl))
  (try simp only [Act.put, List.setIfInBounds_toArray, List.set_cons_zero, List.set_cons_succ])
  refine wpAnyG_take 4 (v := ?_) (fun _ => trivial) (by simp only [List.getElem?_toArray, List.getElem?_cons_succ, List.getElem?_cons_zero]; rfl) (by kernel_rfl) (fun _ _ _ _ _ h => h) ⟨(by rfl), (by intro c h; cases h), ?_⟩ hHeld ?_
  rotate_left
  focus (intro wS hSw; (try replace hSw := HSF.out wS hSw); (try dsimp only at hSw); go_simp; (try with_reducible rfl))
  (try simp only [Act.put, List.setIfInBounds_toArray, List.set_cons_zero, List.set_cons_succ])
  refine wpAnyG_take 5 (v := ?_) (fun _ => trivial) (by simp only [List.getElem?_toArray, List.getElem?_cons_succ, List.getElem?_cons_zero]; rfl) (by kernel_rfl) (fun _ _ _ _ _ h => h) ⟨(by rfl), (by intro c h; cases h), ?_⟩ hHeld ?_
  rotate_left
  focus (intro wS hSw; (try replace hSw := HSF.out wS hSw); (try dsimp only at hSw); go_simp; (try with_reducible rfl))
  (try simp only [Act.put, List.setIfInBounds_toArray, List.set_cons_zero, List.set_cons_succ])
  refine wpAnyS_ready [6] (by kernel_rfl) (by simp) (AllReadyS.consG (by simp only [List.getElem?_toArray, List.getElem?_cons_succ, List.getElem?_cons_zero]; rfl) (by rfl) (fun K hK => ?_) AllReadyS.nil)
  refine callS (by intro c h; cases h) (by go_simp; try with_reducible rfl) (HS1.out _ BD.out) ?_
  intro wa hBq
  have Ba := hid (BD.out.trans (hBq.mono BD.out.size))
  refine hK.out _ _ Ba.out ?_
  (try simp only [Act.put, List.setIfInBounds_toArray, List.set_cons_zero, List.set_cons_succ])
  clear hK K hBq
  clear hHeld
  have hHeld := Ba.out
  refine wpAnyG_pure 7 (v := ?_) (fun _ => trivial) (by simp only [List.getElem?_toArray, List.getElem?_cons_succ, List.getElem?_cons_zero]; rfl) (by kernel_rfl) (fun _ _ _ _ _ h => h) ⟨(by rfl), (by intro c h; cases h), ?_⟩ hHeld ?_
  rotate_left
  focus (intro wS hSw; (try replace hSw := HSF.out wS hSw); (try dsimp only at hSw); go_simp; (try with_reducible rfl))
  (try simp only [Act.put, List.setIfInBounds_toArray, List.set_cons_zero, List.set_cons_succ])
  refine wpAnyG_pure 8 (v := ?_) (fun _ => trivial) (by simp only [List.getElem?_toArray, List.getElem?_cons_succ, List.getElem?_cons_zero]; rfl) (by kernel_rfl) (fun _ _ _ _ _ h => h) ⟨(by rfl), (by intro c h; cases h), ?_⟩ hHeld ?_
  rotate_left
  focus (intro wS hSw; (try replace hSw := HSF.out wS hSw); (try dsimp only at hSw); go_simp; (try with_reducible rfl))
  (try simp only [Act.put, List.setIfInBounds_toArray, List.set_cons_zero, List.set_cons_succ])
  refine wpAnyG_pure 9 (v := ?_) (fun _ => trivial) (by simp only [List.getElem?_toArray, List.getElem?_cons_succ, List.getElem?_cons_zero]; rfl) (by kernel_rfl) (fun _ _ _ _ _ h => h) ⟨(by rfl), (by intro c h; cases h), ?_⟩ hHeld ?_
  rotate_left
  focus (intro wS hSw; (try replace hSw := HSF.out wS hSw); (try dsimp only at hSw); go_simp; (try with_reducible rfl))
  (try simp only [Act.put, List.setIfInBounds_toArray, List.set_cons_zero, List.set_cons_succ])
  refine wpAnyG_take 10 (v := ?_) (fun _ => trivial) (by simp only [List.getElem?_toArray, List.getElem?_cons_succ, List.getElem?_cons_zero]; rfl) (by kernel_rfl) (fun _ _ _ _ _ h => h) ⟨(by rfl), (by intro c h; cases h), ?_⟩ hHeld ?_
  rotate_left
  focus (intro wS hSw; (try replace hSw := HSF.out wS hSw); (try dsimp only at hSw); go_simp; (try with_reducible rfl))
  (try simp only [Act.put, List.setIfInBounds_toArray, List.set_cons_zero, List.set_cons_succ])
  refine wpAnyG_take 12 (v := ?_) (fun _ => trivial) (by simp only [List.getElem?_toArray, List.getElem?_cons_succ, List.getElem?_cons_zero]; rfl) (by kernel_rfl) (fun _ _ _ _ _ h => h) ⟨(by rfl), (by intro c h; cases h), ?_⟩ hHeld ?_
  rotate_left
  focus (intro wS hSw; (try replace hSw := HSF.out wS hSw); (try dsimp only at hSw); go_simp; (try with_reducible rfl))
  (try simp only [Act.put, List.setIfInBounds_toArray, List.set_cons_zero, List.set_cons_succ])
  refine wpAnyS_ready [11] (by kernel_rfl) (by simp) (AllReadyS.consG (by simp only [List.getElem?_toArray, List.getElem?_cons_succ, List.getElem?_cons_zero]; rfl) (by rfl) (fun K hK => ?_) AllReadyS.nil)
  refine callS (by intro c h; cases h) (by go_simp; try with_reducible rfl) (HNP.out _ Ba.out) ?_
  intro wb hBq
  have Bb := hid (Ba.out.trans (hBq.mono Ba.out.size))
  refine hK.out _ _ Bb.out ?_
  (try simp only [Act.put, List.setIfInBounds_toArray, List.set_cons_zero, List.set_cons_succ])
  clear hK K hBq
  clear hHeld
  have hHeld := Bb.out
  refine wpAnyS_ready [13] (by kernel_rfl) (by simp) (AllReadyS.consG (by simp only [List.getElem?_toArray, List.getElem?_cons_succ, List.getElem?_cons_zero]; rfl) (by rfl) (fun K hK => ?_) AllReadyS.nil)
  refine callS (by intro c h; cases h) (by go_simp; try with_reducible rfl) (HNR.out _ Bb.out) ?_
  intro wc9 hBq
  have Bc := hid (Bb.out.trans (hBq.mono Bb.out.size))
  refine hK.out _ _ Bc.out ?_
  (try simp only [Act.put, List.setIfInBounds_toArray, List.set_cons_zero, List.set_cons_succ])
  clear hK K hBq
  clear hHeld
  have hHeld := Bc.out
  refine wpAnyG_pure 14 (v := ?_) (fun _ => trivial) (by simp only [List.getElem?_toArray, List.getElem?_cons_succ, List.getElem?_cons_zero]; rfl) (by kernel_rfl) (fun _ _ _ _ _ h => h) ⟨(by rfl), (by intro c h; cases h), ?_⟩ hHeld ?_
  rotate_left
  focus (intro wS hSw; (try replace hSw := HSF.out wS hSw); (try dsimp only at hSw); go_simp; (try with_reducible rfl))
  (try simp only [Act.put, List.setIfInBounds_toArray, List.set_cons_zero, List.set_cons_succ])
  refine wpAnyG_pure 15 (v := ?_) (fun _ => trivial) (by simp only [List.getElem?_toArray, List.getElem?_cons_succ, List.getElem?_cons_zero]; rfl) (by kernel_rfl) (fun _ _ _ _ _ h => h) ⟨(by rfl), (by intro c h; cases h), ?_⟩ hHeld ?_
  rotate_left
  focus (intro wS hSw; (try replace hSw := HSF.out wS hSw); (try dsimp only at hSw); go_simp; (try with_reducible rfl))
  (try simp only [Act.put, List.setIfInBounds_toArray, List.set_cons_zero, List.set_cons_succ])
  refine wpAnyG_pure 16 (v := ?_) (fun _ => trivial) (by simp only [List.getElem?_toArray, List.getElem?_cons_succ, List.getElem?_cons_zero]; rfl) (by kernel_rfl) (fun _ _ _ _ _ h => h) ⟨(by rfl), (by intro c h; cases h), ?_⟩ hHeld ?_
  rotate_left
  focus (intro wS hSw; (try replace hSw := HSF.out wS hSw); (try dsimp only at hSw); go_simp; (try with_reducible rfl))
  (try simp only [Act.put, List.setIfInBounds_toArray, List.set_cons_zero, List.set_cons_succ])
  refine wpAnyG_take 17 (v := ?_) (fun _ => trivial) (by simp only [List.getElem?_toArray, List.getElem?_cons_succ, List.getElem?_cons_zero]; rfl) (by kernel_rfl) (fun _ _ _ _ _ h => h) ⟨(by rfl), (by intro c h; cases h), ?_⟩ hHeld ?_
  rotate_left
  focus (intro wS hSw; (try replace hSw := HSF.out wS hSw); (try dsimp only at hSw); go_simp; (try with_reducible rfl))
  (try simp only [Act.put, List.setIfInBounds_toArray, List.set_cons_zero, List.set_cons_succ])
  refine wpAnyG_take 19 (v := ?_) (fun _ => trivial) (by simp only [List.getElem?_toArray, List.getElem?_cons_succ, List.getElem?_cons_zero]; rfl) (by kernel_rfl) (fun _ _ _ _ _ h => h) ⟨(by rfl), (by intro c h; cases h), ?_⟩ hHeld ?_
  rotate_left
  focus (intro wS hSw; (try replace hSw := HSF.out wS hSw); (try dsimp only at hSw); go_simp; (try with_reducible rfl))
  (try simp only [Act.put, List.setIfInBounds_toArray, List.set_cons_zero, List.set_cons_succ])
  refine wpAnyS_ready [18] (by kernel_rfl) (by simp) (AllReadyS.consG (by simp only [List.getElem?_toArray, List.getElem?_cons_succ, List.getElem?_cons_zero]; rfl) (by rfl) (fun K hK => ?_) AllReadyS.nil)
  refine callS (by intro c h; cases h) (by go_simp; try with_reducible rfl) (HBP.out _ Bc.out) ?_
  intro wd9 hBq
  have Bd := hid (Bc.out.trans (hBq.mono Bc.out.size))
  refine hK.out _ _ Bd.out ?_
  (try simp only [Act.put, List.setIfInBounds_toArray, List.set_cons_zero, List.set_cons_succ])
  clear hK K hBq
  clear hHeld
  have hHeld := Bd.out
  refine wpAnyS_ready [20] (by kernel_rfl) (by simp) (AllReadyS.consG (by simp only [List.getElem?_toArray, List.getElem?_cons_succ, List.getElem?_cons_zero]; rfl) (by rfl) (fun K hK => ?_) AllReadyS.nil)
  refine callS (by intro c h; cases h) (by go_simp; try with_reducible rfl) (HBR.out _ Bd.out) ?_
  intro we9 hBq
  have Be := hid (Bd.out.trans (hBq.mono Bd.out.size))
  refine hK.out _ _ Be.out ?_
  (try simp only [Act.put, List.setIfInBounds_toArray, List.set_cons_zero, List.set_cons_succ])
  clear hK K hBq
  clear hHeld
  have hHeld := Be.out
  refine wpAnyG_pure 21 (v := ?_) (fun _ => trivial) (by simp only [List.getElem?_toArray, List.getElem?_cons_succ, List.getElem?_cons_zero]; rfl) (by kernel_rfl) (fun _ _ _ _ _ h => h) ⟨(by rfl), (by intro c h; cases h), ?_⟩ hHeld ?_
  rotate_left
  focus (intro wS hSw; (try replace hSw := HSF.out wS hSw); (try dsimp only at hSw); go_simp; (try with_reducible rfl))
  (try simp only [Act.put, List.setIfInBounds_toArray, List.set_cons_zero, List.set_cons_succ])
  refine wpAnyG_pure 22 (v := ?_) (fun _ => trivial) (by simp only [List.getElem?_toArray, List.getElem?_cons_succ, List.getElem?_cons_zero]; rfl) (by kernel_rfl) (fun _ _ _ _ _ h => h) ⟨(by rfl), (by intro c h; cases h), ?_⟩ hHeld ?_
  rotate_left
  focus (intro wS hSw; (try replace hSw := HSF.out wS hSw); (try dsimp only at hSw); go_simp; (try with_reducible rfl))
  (try simp only [Act.put, List.setIfInBounds_toArray, List.set_cons_zero, List.set_cons_succ])
  refine wpAnyS_done (by kernel_rfl) ?_
  have B19 := hid (B18.out.trans (Be.out.mono B18.out.size))
  clear hHeld HSF BD Ba Bb Bc Bd Be HS1 HNP HNR HBP HBR B18
  obtain ⟨l0, l1, m0, m1⟩ := HX.out we9 B19.out
  obtain ⟨k0, k1, k2, k3, k4⟩ := HXF.out we9 B19.out
  go_wp2_with fail
  refine (HGV.out _ B19.out).mono ?_
  rintro e w20 ⟨rfl, hB⟩
  have B20 := hid (B19.out.trans (hB.mono B19.out.size))
  clear hB l0 l1 m0 m1 k0 k1 k2 k3 k4 B19
  cases gv with
  | false =>
    as_aux_lemma =>
      go_wp2_with fail
      go_ret
      exact ⟨rfl, B1.out.trans (B20.out.mono B1.out.size)⟩
  | true =>
  obtain ⟨hRF, hpw, -, hrl⟩ := hgf.out rfl
  have hb9 := hid (fun (full : Bool) => show (betL W H D kind out r l full r.length r.length).length ≤ maxLen from by
    have h1 := betL_len (W := W) (H := H) (D := D) (kind := kind) (out := out) (r := r) (l := l) (full := full) r.length r.length
    have h2 : r.length * r.length ≤ 24 * 24 := Nat.mul_le_mul (by omega) (by omega)
    unfold maxLen; omega)
  have H1 := hid (fun (W' : World) (hW : Below w1.heap.size w1 W') => shiftsB_say W H D Ak Ao ck co kind out Ar Al cr cl r l t' W' hRF (HK.out W' hW) (HO.out W' hW) (HR.out W' hW) (HL.out W' hW) hpw hrl hl24)
  have H2 := hid (fun (W' : World) (hW : Below w1.heap.size w1 W') => shiftsR_say W H D Ak Ao ck co kind out Ar Al cr cl r l t' W' hRF (HK.out W' hW) (HO.out W' hW) (HR.out W' hW) (HL.out W' hW) hrl hl24)
  have H3 := hid (fun (W' : World) (hW : Below w1.heap.size w1 W') => backsB_say W H D Ak Ao ck co kind out Ar Al cr cl r l t' W' hRF (HK.out W' hW) (HO.out W' hW) (HR.out W' hW) (HL.out W' hW) hpw hrl hl24)
  have H4 := hid (fun (W' : World) (hW : Below w1.heap.size w1 W') => backsR_say W H D Ak Ao ck co kind out Ar Al cr cl r l t' W' hRF (HK.out W' hW) (HO.out W' hW) (HR.out W' hW) (HL.out W' hW) hrl hl24)
  unfold RetB at H1 H2 H3 H4
  have hbt := hb9.out true
  have hbf := hb9.out false
  generalize betL W H D kind out r l true r.length r.length = bt at *
  generalize betL W H D kind out r l false r.length r.length = bf at *
  clear hRF hpw hrl hgf hb9 HRP HRR HSP HSR HHP HHR HCP HCR HGV hRN
  have HSF := hid (fun (wq : World) (hq : Below w1.heap.size w1 wq) => And.intro (HX.out wq hq) (HXF.out wq hq))
  go_upto_region 20 with fail
  have BD := hid B20.out.drew
  refine wpIn_wide.1 (wpIn_region_S (n := 0) (fun wq => Below w1.heap.size w1 wq) [] (by kernel_rfl) BD.out (fun hHeld => ?_))
  generalize w20.drew = wd at *
  refine wpAnyG_pure 0 (v := ?_) (fun _ => trivial) (by simp only [List.getElem?_toArray, List.getElem?_cons_succ, List.getElem?_cons_zero]; rfl) (by kernel_rfl) (fun _ _ _ _ _ h => h) ⟨(by rfl), (by intro c h; cases h), ?_⟩ hHeld ?_
  rotate_left
  focus (intro wS hSw; (try replace hSw := HSF.out wS hSw); (try dsimp only at hSw); go_simp; (try with_reducible rfl))
  (try simp only [Act.put, List.setIfInBounds_toArray, List.set_cons_zero, List.set_cons_succ])
  refine wpAnyG_pure 1 (v := ?_) (fun _ => trivial) (by simp only [List.getElem?_toArray, List.getElem?_cons_succ, List.getElem?_cons_zero]; rfl) (by kernel_rfl) (fun _ _ _ _ _ h => h) ⟨(by rfl), (by intro c h; cases h), ?_⟩ hHeld ?_
  rotate_left
  focus (intro wS hSw; (try replace hSw := HSF.out wS hSw); (try dsimp only at hSw); go_simp; (try with_reducible rfl))
  (try simp only [Act.put, List.setIfInBounds_toArray, List.set_cons_zero, List.set_cons_succ])
  refine wpAnyG_take 2 (v := ?_) (fun _ => trivial) (by simp only [List.getElem?_toArray, List.getElem?_cons_succ, List.getElem?_cons_zero]; rfl) (by kernel_rfl) (fun _ _ _ _ _ h => h) ⟨(by rfl), (by intro c h; cases h), ?_⟩ hHeld ?_
  rotate_left
  focus (intro wS hSw; (try replace hSw := HSF.out wS hSw); (try dsimp only at hSw); go_simp; (try with_reducible rfl))
  (try simp only [Act.put, List.setIfInBounds_toArray, List.set_cons_zero, List.set_cons_succ])
  refine wpAnyG_pure 3 (v := ?_) (fun _ => trivial) (by simp only [List.getElem?_toArray, List.getElem?_cons_succ, List.getElem?_cons_zero]; rfl) (by kernel_rfl) (fun _ _ _ _ _ h => h) ⟨(by rfl), (by intro c h; cases h), ?_⟩ hHeld ?_
  rotate_left
  focus (intro wS hSw; (try replace hSw := HSF.out wS hSw); (try dsimp only at hSw); go_simp; (try with_reducible rfl))
  (try simp only [Act.put, List.setIfInBounds_toArray, List.set_cons_zero, List.set_cons_succ])
  refine wpAnyG_take 4 (v := ?_) (fun _ => trivial) (by simp only [List.getElem?_toArray, List.getElem?_cons_succ, List.getElem?_cons_zero]; rfl) (by kernel_rfl) (fun _ _ _ _ _ h => h) ⟨(by rfl), (by intro c h; cases h), ?_⟩ hHeld ?_
  rotate_left
  focus (intro wS hSw; (try replace hSw := HSF.out wS hSw); (try dsimp only at hSw); go_simp; (try with_reducible rfl))
  (try simp only [Act.put, List.setIfInBounds_toArray, List.set_cons_zero, List.set_cons_succ])
  refine wpAnyG_take 6 (v := ?_) (fun _ => trivial) (by simp only [List.getElem?_toArray, List.getElem?_cons_succ, List.getElem?_cons_zero]; rfl) (by kernel_rfl) (fun _ _ _ _ _ h => h) ⟨(by rfl), (by intro c h; cases h), ?_⟩ hHeld ?_
  rotate_left
  focus (intro wS hSw; (try replace hSw := HSF.out wS hSw); (try dsimp only at hSw); go_simp; (try with_reducible rfl))
  (try simp only [Act.put, List.setIfInBounds_toArray, List.set_cons_zero, List.set_cons_succ])
  refine wpAnyG_pure 7 (v := ?_) (fun _ => trivial) (by simp only [List.getElem?_toArray, List.getElem?_cons_succ, List.getElem?_cons_zero]; rfl) (by kernel_rfl) (fun _ _ _ _ _ h => h) ⟨(by rfl), (by intro c h; cases h), ?_⟩ hHeld ?_
  rotate_left
  focus (intro wS hSw; (try replace hSw := HSF.out wS hSw); (try dsimp only at hSw); go_simp; (try with_reducible rfl))
  (try simp only [Act.put, List.setIfInBounds_toArray, List.set_cons_zero, List.set_cons_succ])
  refine wpAnyG_take 8 (v := ?_) (fun _ => trivial) (by simp only [List.getElem?_toArray, List.getElem?_cons_succ, List.getElem?_cons_zero]; rfl) (by kernel_rfl) (fun _ _ _ _ _ h => h) ⟨(by rfl), (by intro c h; cases h), ?_⟩ hHeld ?_
  rotate_left
  focus (intro wS hSw; (try replace hSw := HSF.out wS hSw); (try dsimp only at hSw); go_simp; (try with_reducible rfl))
  (try simp only [Act.put, List.setIfInBounds_toArray, List.set_cons_zero, List.set_cons_succ])
  refine wpAnyS_ready [5] (by kernel_rfl) (by simp) (AllReadyS.consG (by simp only [List.getElem?_toArray, List.getElem?_cons_succ, List.getElem?_cons_zero]; rfl) (by rfl) (fun K hK => ?_) AllReadyS.nil)
  refine callV (R := fun v w' => ∃ (A5 : Option Addr) (c5 : Nat), v = .slice A5 bt.length c5 ∧ SlR w' w'.heap.size A5 bt ∧ Below _ _ w') (by intro c h; cases h) (by go_simp; try with_reducible rfl) ((H1.out _ BD.out).mono (fun e w' ⟨A', c', he, hs, hb⟩ => ⟨_, he, A', c', rfl, hs, hb⟩)) ?_
  rintro v wa ⟨A21, c21, rfl, hs, hBq⟩
  have Ba := hid (BD.out.trans (hBq.mono BD.out.size))
  have S1 := hid hs
  refine hK.out _ _ Ba.out ?_
  (try simp only [Act.put, List.setIfInBounds_toArray, List.set_cons_zero, List.set_cons_succ])
  clear hK K hHeld hBq hs
  have hHeld := Ba.out
  refine wpAnyS_ready [9] (by kernel_rfl) (by simp) (AllReadyS.consG (by simp only [List.getElem?_toArray, List.getElem?_cons_succ, List.getElem?_cons_zero]; rfl) (by rfl) (fun K hK => ?_) AllReadyS.nil)
  refine callV (R := fun v w' => ∃ (A5 : Option Addr) (c5 : Nat), v = .slice A5 bt.length c5 ∧ SlR w' w'.heap.size A5 bt ∧ Below _ _ w') (by intro c h; cases h) (by go_simp; try with_reducible rfl) ((H2.out _ Ba.out).mono (fun e w' ⟨A', c', he, hs, hb⟩ => ⟨_, he, A', c', rfl, hs, hb⟩)) ?_
  rintro v wb ⟨A22, c22, rfl, hs, hBq⟩
  have Bb := hid (Ba.out.trans (hBq.mono Ba.out.size))
  have S2 := hid hs
  replace S1 := hid ((S1.out.below hBq).more hBq.size)
  refine hK.out _ _ Bb.out ?_
  (try simp only [Act.put, List.setIfInBounds_toArray, List.set_cons_zero, List.set_cons_succ])
  clear hK K hHeld hBq hs
  have hHeld := Bb.out
  have HSS := hid (sameshifts_any A21 A22 c21 c22 bt bt _ hbt hbt S1.out S2.out)
  rw [show decide (bt = bt) = true from decide_eq_true rfl] at HSS
  refine wpAnyS_ready [10] (by kernel_rfl) (by simp) (AllReadyS.consG (by simp only [List.getElem?_toArray, List.getElem?_cons_succ, List.getElem?_cons_zero]; rfl) (by rfl) (fun K hK => ?_) AllReadyS.nil)
  refine callS (by intro c h; cases h) (by go_simp; try with_reducible rfl) HSS.out ?_
  intro wc9 hBq
  have Bc := hid (Bb.out.trans (hBq.mono Bb.out.size))
  refine hK.out _ _ Bc.out ?_
  (try simp only [Act.put, List.setIfInBounds_toArray, List.set_cons_zero, List.set_cons_succ])
  clear hK K hBq
  clear hHeld HSS
  have hHeld := Bc.out
  refine wpAnyG_pure 11 (v := ?_) (fun _ => trivial) (by simp only [List.getElem?_toArray, List.getElem?_cons_succ, List.getElem?_cons_zero]; rfl) (by kernel_rfl) (fun _ _ _ _ _ h => h) ⟨(by rfl), (by intro c h; cases h), ?_⟩ hHeld ?_
  rotate_left
  focus (intro wS hSw; (try replace hSw := HSF.out wS hSw); (try dsimp only at hSw); go_simp; (try with_reducible rfl))
  (try simp only [Act.put, List.setIfInBounds_toArray, List.set_cons_zero, List.set_cons_succ])
  refine wpAnyG_pure 12 (v := ?_) (fun _ => trivial) (by simp only [List.getElem?_toArray, List.getElem?_cons_succ, List.getElem?_cons_zero]; rfl) (by kernel_rfl) (fun _ _ _ _ _ h => h) ⟨(by rfl), (by intro c h; cases h), ?_⟩ hHeld ?_
  rotate_left
  focus (intro wS hSw; (try replace hSw := HSF.out wS hSw); (try dsimp only at hSw); go_simp; (try with_reducible rfl))
  (try simp only [Act.put, List.setIfInBounds_toArray, List.set_cons_zero, List.set_cons_succ])
  refine wpAnyG_take 13 (v := ?_) (fun _ => trivial) (by simp only [List.getElem?_toArray, List.getElem?_cons_succ, List.getElem?_cons_zero]; rfl) (by kernel_rfl) (fun _ _ _ _ _ h => h) ⟨(by rfl), (by intro c h; cases h), ?_⟩ hHeld ?_
  rotate_left
  focus (intro wS hSw; (try replace hSw := HSF.out wS hSw); (try dsimp only at hSw); go_simp; (try with_reducible rfl))
  (try simp only [Act.put, List.setIfInBounds_toArray, List.set_cons_zero, List.set_cons_succ])
  refine wpAnyG_pure 14 (v := ?_) (fun _ => trivial) (by simp only [List.getElem?_toArray, List.getElem?_cons_succ, List.getElem?_cons_zero]; rfl) (by kernel_rfl) (fun _ _ _ _ _ h => h) ⟨(by rfl), (by intro c h; cases h), ?_⟩ hHeld ?_
  rotate_left
  focus (intro wS hSw; (try replace hSw := HSF.out wS hSw); (try dsimp only at hSw); go_simp; (try with_reducible rfl))
  (try simp only [Act.put, List.setIfInBounds_toArray, List.set_cons_zero, List.set_cons_succ])
  refine wpAnyG_take 15 (v := ?_) (fun _ => trivial) (by simp only [List.getElem?_toArray, List.getElem?_cons_succ, List.getElem?_cons_zero]; rfl) (by kernel_rfl) (fun _ _ _ _ _ h => h) ⟨(by rfl), (by intro c h; cases h), ?_⟩ hHeld ?_
  rotate_left
  focus (intro wS hSw; (try replace hSw := HSF.out wS hSw); (try dsimp only at hSw); go_simp; (try with_reducible rfl))
  (try simp only [Act.put, List.setIfInBounds_toArray, List.set_cons_zero, List.set_cons_succ])
  refine wpAnyG_take 17 (v := ?_) (fun _ => trivial) (by simp only [List.getElem?_toArray, List.getElem?_cons_succ, List.getElem?_cons_zero]; rfl) (by kernel_rfl) (fun _ _ _ _ _ h => h) ⟨(by rfl), (by intro c h; cases h), ?_⟩ hHeld ?_
  rotate_left
  focus (intro wS hSw; (try replace hSw := HSF.out wS hSw); (try dsimp only at hSw); go_simp; (try with_reducible rfl))
  (try simp only [Act.put, List.setIfInBounds_toArray, List.set_cons_zero, List.set_cons_succ])
  refine wpAnyG_pure 18 (v := ?_) (fun _ => trivial) (by simp only [List.getElem?_toArray, List.getElem?_cons_succ, List.getElem?_cons_zero]; rfl) (by kernel_rfl) (fun _ _ _ _ _ h => h) ⟨(by rfl), (by intro c h; cases h), ?_⟩ hHeld ?_
  rotate_left
  focus (intro wS hSw; (try replace hSw := HSF.out wS hSw); (try dsimp only at hSw); go_simp; (try with_reducible rfl))
  (try simp only [Act.put, List.setIfInBounds_toArray, List.set_cons_zero, List.set_cons_succ])
  refine wpAnyG_take 19 (v := ?_) (fun _ => trivial) (by simp only [List.getElem?_toArray, List.getElem?_cons_succ, List.getElem?_cons_zero]; rfl) (by kernel_rfl) (fun _ _ _ _ _ h => h) ⟨(by rfl), (by intro c h; cases h), ?_⟩ hHeld ?_
  rotate_left
  focus (intro wS hSw; (try replace hSw := HSF.out wS hSw); (try dsimp only at hSw); go_simp; (try with_reducible rfl))
  (try simp only [Act.put, List.setIfInBounds_toArray, List.set_cons_zero, List.set_cons_succ])
  refine wpAnyS_ready [16] (by kernel_rfl) (by simp) (AllReadyS.consG (by simp only [List.getElem?_toArray, List.getElem?_cons_succ, List.getElem?_cons_zero]; rfl) (by rfl) (fun K hK => ?_) AllReadyS.nil)
  refine callV (R := fun v w' => ∃ (A5 : Option Addr) (c5 : Nat), v = .slice A5 bf.length c5 ∧ SlR w' w'.heap.size A5 bf ∧ Below _ _ w') (by intro c h; cases h) (by go_simp; try with_reducible rfl) ((H3.out _ Bc.out).mono (fun e w' ⟨A', c', he, hs, hb⟩ => ⟨_, he, A', c', rfl, hs, hb⟩)) ?_
  rintro v wd9 ⟨A23, c23, rfl, hs, hBq⟩
  have Bd := hid (Bc.out.trans (hBq.mono Bc.out.size))
  have S3 := hid hs
  refine hK.out _ _ Bd.out ?_
  (try simp only [Act.put, List.setIfInBounds_toArray, List.set_cons_zero, List.set_cons_succ])
  clear hK K hHeld hBq hs
  have hHeld := Bd.out
  refine wpAnyS_ready [20] (by kernel_rfl) (by simp) (AllReadyS.consG (by simp only [List.getElem?_toArray, List.getElem?_cons_succ, List.getElem?_cons_zero]; rfl) (by rfl) (fun K hK => ?_) AllReadyS.nil)
  refine callV (R := fun v w' => ∃ (A5 : Option Addr) (c5 : Nat), v = .slice A5 bf.length c5 ∧ SlR w' w'.heap.size A5 bf ∧ Below _ _ w') (by intro c h; cases h) (by go_simp; try with_reducible rfl) ((H4.out _ Bd.out).mono (fun e w' ⟨A', c', he, hs, hb⟩ => ⟨_, he, A', c', rfl, hs, hb⟩)) ?_
  rintro v we ⟨A24, c24, rfl, hs, hBq⟩
  have Be := hid (Bd.out.trans (hBq.mono Bd.out.size))
  have S4 := hid hs
  replace S3 := hid ((S3.out.below hBq).more hBq.size)
  refine hK.out _ _ Be.out ?_
  (try simp only [Act.put, List.setIfInBounds_toArray, List.set_cons_zero, List.set_cons_succ])
  clear hK K hHeld hBq hs
  have hHeld := Be.out
  have HSS := hid (sameshifts_any A23 A24 c23 c24 bf bf _ hbf hbf S3.out S4.out)
  rw [show decide (bf = bf) = true from decide_eq_true rfl] at HSS
  refine wpAnyS_ready [21] (by kernel_rfl) (by simp) (AllReadyS.consG (by simp only [List.getElem?_toArray, List.getElem?_cons_succ, List.getElem?_cons_zero]; rfl) (by rfl) (fun K hK => ?_) AllReadyS.nil)
  refine callS (by intro c h; cases h) (by go_simp; try with_reducible rfl) HSS.out ?_
  intro wf9 hBq
  have Bf := hid (Be.out.trans (hBq.mono Be.out.size))
  refine hK.out _ _ Bf.out ?_
  (try simp only [Act.put, List.setIfInBounds_toArray, List.set_cons_zero, List.set_cons_succ])
  clear hK K hBq
  clear hHeld HSS
  have hHeld := Bf.out
  refine wpAnyG_pure 22 (v := ?_) (fun _ => trivial) (by simp only [List.getElem?_toArray, List.getElem?_cons_succ, List.getElem?_cons_zero]; rfl) (by kernel_rfl) (fun _ _ _ _ _ h => h) ⟨(by rfl), (by intro c h; cases h), ?_⟩ hHeld ?_
  rotate_left
  focus (intro wS hSw; (try replace hSw := HSF.out wS hSw); (try dsimp only at hSw); go_simp; (try with_reducible rfl))
  (try simp only [Act.put, List.setIfInBounds_toArray, List.set_cons_zero, List.set_cons_succ])
  refine wpAnyG_pure 23 (v := ?_) (fun _ => trivial) (by simp only [List.getElem?_toArray, List.getElem?_cons_succ, List.getElem?_cons_zero]; rfl) (by kernel_rfl) (fun _ _ _ _ _ h => h) ⟨(by rfl), (by intro c h; cases h), ?_⟩ hHeld ?_
  rotate_left
  focus (intro wS hSw; (try replace hSw := HSF.out wS hSw); (try dsimp only at hSw); go_simp; (try with_reducible rfl))
  (try simp only [Act.put, List.setIfInBounds_toArray, List.set_cons_zero, List.set_cons_succ])
  refine wpAnyS_done (by kernel_rfl) ?_
  clear hHeld HSF
  go_wp2_with fail
  go_ret
  exact ⟨rfl, B1.out.trans (Bf.out.mono B1.out.size)⟩
end Go.Proofs.YtgbgcmhmlnmklaaGreatDoor
