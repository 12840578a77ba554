
/- LayoutShifts: the walk (printed by gen_lshw.py out of XLshG.head). -/
import Derived.Test.YtbelaeellcnpmaaLshH
import Derived.Test.YtbelaeellcnpmaaLshB
import Derived.Test.YtbelaeellcnpmaaLayF
set_option linter.unusedSimpArgs false
set_option linter.unusedVariables false
namespace Go.Proofs.Ytbelaeellcnpmaa
open Go.RowKit Go.IntWalk Go.Shelf

theorem SlR.farB {w : World} {B : Nat} {A : Option Addr} {l : List Bool} (h : SlR w B A l) {p : Addr} (hp : ∀ a, A = some a → a.block ≠ p.block) (u : Value) : SlR (w.setCell p u) B A l := by
  intro k x hx
  obtain ⟨b, off, es, hA, hb, hs, hc, hr⟩ := h k x hx
  refine ⟨b, off, es, hA, hb, hs, fun j u' hu => ?_, hr⟩
  have hne : b ≠ p.block := hp _ hA
  rw [cell_kept (Below.heap_setCell w p u b hne)]
  exact hc j u' hu
theorem SlR.lo {w : World} {B : Nat} {A : Option Addr} {l : List Bool} (h : SlR w B A l) (hl : 0 < l.length) : ∀ a, A = some a → a.block < B := by
  obtain ⟨b, off, rfl, hb, -⟩ := h.bool hl
  intro a e
  injection e with e
  subst e
  exact hb
theorem SlR.sepB {w : World} {B : Nat} {A : Option Addr} {l : List Bool} {g : Nat} {ty : TypeId} {a : Option Addr} {b c : Nat} {z : Int} (h : SlR w B A l) (hl : 0 < l.length) (hX : Blk w g ty #[.slice a b c, .int .i64 z]) : ∀ ad, A = some ad → ad.block ≠ g := by
  obtain ⟨b, off, rfl, hb, hc⟩ := h.bool hl
  intro a e hbg
  injection e with e
  subst e
  have hbg' : b = g := hbg
  subst hbg'
  have := hX.cell (off + 0)
  rw [hc] at this
  match off, this with
  | 0, h => simp at h
  | 1, h => simp at h
  | n + 2, h => simp at h
set_option maxRecDepth 100000 in
set_option maxHeartbeats 40000000 in
theorem lshifts_any (W H D : Int) (Ak Ao : Option Addr) (ck co : Nat) (kind out : List Int) (Ar Al : Option Addr) (cr cl : Nat) (r : List Int) (l : List Bool) (t : Int) (w : World) (hkl : kind.length ≤ maxLen) (hol : out.length ≤ maxLen) (hrl : r.length ≤ maxLen) (hll : l.length ≤ maxLen)
    (hk : SlR w w.heap.size Ak kind) (ho : SlR w w.heap.size Ao out) (hr : SlR w w.heap.size Ar r) (hL : SlR w w.heap.size Al l) :
    Calls Try.prog 3 #[.agg #[.int .i64 W, .int .i64 H, .int .i64 D, .slice Ak kind.length ck, .slice Ao out.length co], .slice Ar r.length cr, .agg #[.slice Al l.length cl, .int .i64 t]] w fun e w' => e = .returned (.bool true) ∧ Below w.heap.size w w' := by
  obtain ⟨w1, hw1⟩ : ∃ w1, w1 = ((w.alloc (Obj.cells #[Value.int .i64 W, Value.int .i64 H, Value.int .i64 D, Value.slice Ak kind.length ck, Value.slice Ao out.length co] 24)).alloc (Obj.cells #[.slice Al l.length cl, .int .i64 t] 27)) := ⟨_, rfl⟩
  have B1 := hid (show Below w.heap.size w w1 by rw [hw1]; (repeat (first | exact Below.refl _ _ | assumption | refine below_drewN ?_ _ | refine Below.drew ?_ | refine Below.alloc ?_ (by (try simp); (try omega)) _ | refine Below.setCell ?_ (by (try simp); (try omega)) _)))
  have X1 := (show Blk w1 w.heap.size 24 #[Value.int .i64 W, Value.int .i64 H, Value.int .i64 D, Value.slice Ak kind.length ck, Value.slice Ao out.length co] by rw [hw1]; exact (Blk.new w _ _).alloc _)
  have X2 := (show Blk w1 (w.heap.size + 1) 27 #[.slice Al l.length cl, .int .i64 t] by rw [hw1]; exact Blk.new_at (by simp))
  have HX := hid (fun (W' : World) (hW : Below w1.heap.size w1 W') => And.intro (blk5 (X1.below hW X1.lt)) (And.intro (show W'.cell? ⟨w.heap.size + 1, 0, none⟩ = some (.slice Al l.length cl) from (bcell hW _ _ X2.lt).trans (by rw [X2.cell]; rfl)) (And.intro (show W'.cell? ⟨w.heap.size + 1, 1, none⟩ = some (.int .i64 t) from (bcell hW _ _ X2.lt).trans (by rw [X2.cell]; rfl)) (And.intro (Nat.lt_of_lt_of_le X1.lt hW.size) (Nat.lt_of_lt_of_le X2.lt hW.size)))))
  have HSM := hid (small_any w1)
  have HK := hid (fun (W' : World) (hW : Below w1.heap.size w1 W') => show SlR W' W'.heap.size Ak kind from (hk.below (B1.out.trans (hW.mono B1.out.size))).more (B1.out.trans (hW.mono B1.out.size)).size)
  have HO := hid (fun (W' : World) (hW : Below w1.heap.size w1 W') => show SlR W' W'.heap.size Ao out from (ho.below (B1.out.trans (hW.mono B1.out.size))).more (B1.out.trans (hW.mono B1.out.size)).size)
  have HR := hid (fun (W' : World) (hW : Below w1.heap.size w1 W') => show SlR W' W'.heap.size Ar r from (hr.below (B1.out.trans (hW.mono B1.out.size))).more (B1.out.trans (hW.mono B1.out.size)).size)
  have HL := hid (fun (W' : World) (hW : Below w1.heap.size w1 W') => show SlR W' W'.heap.size Al l from (hL.below (B1.out.trans (hW.mono B1.out.size))).more (B1.out.trans (hW.mono B1.out.size)).size)
  have HGV := hid (fun (W' : World) (hW : Below w1.heap.size w1 W') => given_any W H D Ak Ao ck co kind out Ar Al cr cl r l t W' hkl hol hrl hll (HK.out W' hW) (HO.out W' hW) (HR.out W' hW) (HL.out W' hW))
  have hgf := hid (fun (h : givenN W H D kind out r l t = true) => show RF W H D kind out ∧ r.Pairwise (· < ·) ∧ rightL l t = true ∧ r.length = l.length from by
    simp only [givenN, Bool.and_eq_true, decide_eq_true_eq] at h
    exact ⟨refR_iff.1 h.1.2, ascR_pw h.2, h.1.1.1.2, h.1.1.2⟩)
  clear hkl hol hrl hll hk ho hr hL X1 X2
  generalize givenN W H D kind out r l t = gv at *
  go_enter Try.func3, Try.ntmps3
  go_upto_region 1 with fail
  rw [← hw1]
  clear hw1
  obtain ⟨⟨k0, k1, k2, k3, k4⟩, l0, l1, xz, lz⟩ := HX.out w1 (Below.refl _ _)
  go_wp2_with fail
  refine HSM.out.mono ?_
  rintro e w2 ⟨rfl, hB⟩
  have B2 := hid hB
  clear hB HSM k0 k1 k2 k3 k4 l0 l1 xz lz
  obtain ⟨⟨k0, k1, k2, k3, k4⟩, l0, l1, xz, lz⟩ := HX.out w2 B2.out
  have HGV2 := hid (HGV.out w2 B2.out)
  go_wp2_with fail
  refine HGV2.out.mono ?_
  rintro e w3 ⟨rfl, hB⟩
  have B3 := hid (B2.out.trans (hB.mono B2.out.size))
  clear hB HGV2 HGV k0 k1 k2 k3 k4 l0 l1 xz lz
  obtain ⟨⟨k0, k1, k2, k3, k4⟩, l0, l1, xz, lz⟩ := HX.out w3 B3.out
  cases gv with
  | false =>
    as_aux_lemma =>
      go_wp2_with fail
      go_ret
      exact ⟨rfl, B1.out.trans (B3.out.mono B1.out.size)⟩
  | true =>
  obtain ⟨hRF, hpw, hrt, hrl⟩ := hgf.out rfl
  have HRF := hid hRF
  have HPW := hid hpw
  have HRT := hid hrt
  have HRL := hid hrl
  have hl24 : l.length ≤ 24 := ((rightL_iff l t).1 hrt).2.1
  have hmpos := hid (show 0 < l.length from ((rightL_iff l t).1 hrt).1)
  clear hgf hRF hpw hrt hrl
  have HS := hid (shiftsT_any W H D Ak Ao ck co kind out Ar Al cr cl r l t w3 HRF.out (HK.out w3 B3.out) (HO.out w3 B3.out) (HR.out w3 B3.out) (HL.out w3 B3.out) HPW.out HRL.out hl24)
  go_wp2_with fail
  refine HS.out.mono ?_
  rintro e w4 ⟨A4, c4, s, rfl, hs144, hmem, hsl, hB⟩
  have B4 := hid (B3.out.trans (hB.mono B3.out.size))
  have HSL := hid hsl
  have HMEM := hid hmem
  clear hB hsl hmem HS k0 k1 k2 k3 k4 l0 l1 xz lz
  go_upto_region 6 with fail
  go_loopw [9] (fun i wr => ∃ k : Nat, k ≤ s.length ∧ i = .int .i64 k ∧ Below w4.heap.size w4 wr) (fun i _ => s.length - (intOf i).toNat)
  case atStart => exact ⟨0, by omega, rfl, Below.refl _ _⟩
  case round =>
    obtain ⟨k, hk, rfl, hB⟩ := hrel
    obtain ⟨wy, hwy⟩ : ∃ wy, wy = wr := ⟨_, rfl⟩
    subst hwy
    have B4y := hid hB
    have B1y := hid (B4.out.trans (hB.mono B4.out.size))
    clear hB
    by_cases hlt : k < s.length
    case pos =>
      as_aux_lemma =>
        have hlt' : (k : Int) < s.length := by omega
        obtain ⟨a, b, hok⟩ := (allS_mem HPW.out HRL.out rfl).1 ((HMEM.out s[k]).1 (List.getElem_mem hlt))
        obtain ⟨bS, oS, hAS, hbS, s0, s1, -, -⟩ := HSL.out.sh hlt
        rw [hok.eq] at s0 s1
        simp only at s0 s1
        subst hAS
        have HOK := hid hok
        have hP := shP hok
        have HP := hid hP
        have hal := hP.al
        have hbl := hP.bl
        clear hok hP
        have zS : bS < wy.heap.size := by have := B4y.out.size; omega
        replace s0 := (bcell B4y.out _ _ hbS).trans s0
        replace s1 := (bcell B4y.out _ _ hbS).trans s1
        obtain ⟨⟨k0, k1, k2, k3, k4⟩, l0, l1, xz, lz⟩ := HX.out wy B1y.out
        have HSF := hid (fun (wq : World) (hq : Below wy.heap.size wy wq) => And.intro ((bcell hq _ _ lz).trans l0) (And.intro ((bcell hq _ _ lz).trans l1) (And.intro ((bcell hq _ _ zS).trans s0) ((bcell hq _ _ zS).trans s1))))
        have HDo := hid (fun (W' : World) (hW : Below wy.heap.size wy W') => (do_any Al cl l t a b W' hl24 (HL.out W' (B1y.out.trans (hW.mono B1y.out.size))) HP.out.al HP.out.bl HP.out.fa HP.out.fb).mono (R' := fun e w' => ∃ (A' : Option Addr) (c' : Nat), e = Ending.returned (.tuple #[.agg #[.slice A' l.length c', .int .i64 (doT t a b)], .int .i64 0]) ∧ SlR w' w'.heap.size A' (doL l a b) ∧ Below W'.heap.size W' w') (fun e w' ⟨A', c', he, _, _, hs, hb⟩ => show ∃ (A' : Option Addr) (c' : Nat), e = Ending.returned (.tuple #[.agg #[.slice A' l.length c', .int .i64 (doT t a b)], .int .i64 0]) ∧ SlR w' w'.heap.size A' (doL l a b) ∧ Below W'.heap.size W' w' from ⟨A', c', he, hs, hb⟩))
        have hml := hid (doL_len l a b)
        have hmR := hid (doL_right HRT.out hal hbl)
        have hmC := hid (doL_count hal hbl HP.out.fa HP.out.fb)
        have hmA := hid (fun (c : Nat) (hc : c < l.length) => show (doL l a b)[c]? = some (if b = c then true else if a = c then false else l[c]) from by rw [List.getElem?_eq_getElem (by rw [doL_len]; exact hc), doL_at c hc])
        have hmO := hid (sh_other (W := W) (H := H) (D := D) (kind := kind) (out := out) (x := ((a : Int), (b : Int))) (m := doL l a b) (full := true) HPW.out HRL.out (by have := HOK.out; rw [this.eq] at this; exact this) (doL_len l a b) (by
          have hne : b ≠ a := fun e => by have h1 := HP.out.fa; have h2 := HP.out.fb; subst e; rw [h1] at h2; cases h2
          rw [getB_at (by rw [doL_len]; exact hal), doL_at a hal, if_neg hne, if_pos rfl]; rfl) (by
          rw [getB_at (by rw [doL_len]; exact hbl), doL_at b hbl, if_pos rfl]))
        generalize doL l a b = m at *
        have hmpos' := hmpos
        clear hmpos
        have hmpos := hid (show 0 < m.length by rw [hml.out]; exact hmpos'.out)
        obtain ⟨t2, ht2⟩ : ∃ t2, doT t a b = t2 := ⟨_, rfl⟩
        rw [ht2] at HDo hmR
        have HT2 := hid ht2
        clear ht2
        go_upto_region 8 with fail
        go_cut [10, 11] (fun bv ev wx => ∃ (g : Nat) (A5 : Option Addr) (c5 : Nat), bv = .pointer (some ⟨g, 0, none⟩) ∧ ev = .int .i64 0 ∧ Blk wx g 27 #[.slice A5 l.length c5, .int .i64 t2] ∧ SlR wx wx.heap.size A5 m ∧ Below wy.heap.size wy wx)
        case first =>
          have BD := hid ((Below.refl wy.heap.size wy).drew)
          refine wpIn_wide.1 (wpIn_region_S (n := 0) (fun wq => Below wy.heap.size wy wq) [] (by kernel_rfl) BD.out (fun hHeld => ?_))
          generalize wy.drew = wd at *
          refine wpAnyG_take 0 (v := ?_) (fun _ => trivial) (by simp only [List.getElem?_toArray, List.getElem?_cons_succ, List.getElem?_cons_zero]; rfl) (by kernel_rfl) (fun _ _ _ _ _ h => h) ⟨(by rfl), (by intro c h; cases h), ?_⟩ hHeld ?_
          rotate_left
          focus (intro wS hSw; (try replace hSw := HSF.out wS hSw); (try dsimp only at hSw); go_simp; (try with_reducible rfl))
          (try simp only [Act.put, List.setIfInBounds_toArray, List.set_cons_zero, List.set_cons_succ])
          refine wpAnyG_pure 1 (v := ?_) (fun _ => trivial) (by simp only [List.getElem?_toArray, List.getElem?_cons_succ, List.getElem?_cons_zero]; rfl) (by kernel_rfl) (fun _ _ _ _ _ h => h) ⟨(by rfl), (by intro c h; cases h), ?_⟩ hHeld ?_
          rotate_left
          focus (intro wS hSw; (try replace hSw := HSF.out wS hSw); (try dsimp only at hSw); go_simp; (try with_reducible rfl))
          (try simp only [Act.put, List.setIfInBounds_toArray, List.set_cons_zero, List.set_cons_succ])
          refine wpAnyG_pure 2 (v := ?_) (fun _ => trivial) (by simp only [List.getElem?_toArray, List.getElem?_cons_succ, List.getElem?_cons_zero]; rfl) (by kernel_rfl) (fun _ _ _ _ _ h => h) ⟨(by rfl), (by intro c h; cases h), ?_⟩ hHeld ?_
          rotate_left
          focus (intro wS hSw; (try replace hSw := HSF.out wS hSw); (try dsimp only at hSw); go_simp; (try with_reducible rfl))
          (try simp only [Act.put, List.setIfInBounds_toArray, List.set_cons_zero, List.set_cons_succ])
          refine wpAnyG_pure 3 (v := ?_) (fun _ => trivial) (by simp only [List.getElem?_toArray, List.getElem?_cons_succ, List.getElem?_cons_zero]; rfl) (by kernel_rfl) (fun _ _ _ _ _ h => h) ⟨(by rfl), (by intro c h; cases h), ?_⟩ hHeld ?_
          rotate_left
          focus (intro wS hSw; (try replace hSw := HSF.out wS hSw); (try dsimp only at hSw); go_simp; (try with_reducible rfl))
          (try simp only [Act.put, List.setIfInBounds_toArray, List.set_cons_zero, List.set_cons_succ])
          refine wpAnyG_take 4 (v := ?_) (fun _ => trivial) (by simp only [List.getElem?_toArray, List.getElem?_cons_succ, List.getElem?_cons_zero]; rfl) (by kernel_rfl) (fun _ _ _ _ _ h => h) ⟨(by rfl), (by intro c h; cases h), ?_⟩ hHeld ?_
          rotate_left
          focus (intro wS hSw; (try replace hSw := HSF.out wS hSw); (try dsimp only at hSw); go_simp; (try with_reducible rfl))
          (try simp only [Act.put, List.setIfInBounds_toArray, List.set_cons_zero, List.set_cons_succ])
          refine wpAnyS_ready [5, 9] (by kernel_rfl) (by simp) (AllReadyS.cons (by simp only [List.getElem?_toArray, List.getElem?_cons_succ, List.getElem?_cons_zero]; rfl) rfl (fun K hK => ?_) (AllReadyS.cons (by simp only [List.getElem?_toArray, List.getElem?_cons_succ, List.getElem?_cons_zero]; rfl) rfl (fun K hK => ?_) AllReadyS.nil))
          · -- the call first
            refine callV (R := fun u w' => ∃ (A5 : Option Addr) (c5 : Nat), u = .tuple #[.agg #[.slice A5 l.length c5, .int .i64 (t2)], .int .i64 0] ∧ SlR w' w'.heap.size A5 m ∧ Below wd.heap.size wd w') (by intro c h; cases h) (by go_simp; try with_reducible rfl) ((HDo.out wd BD.out).mono (fun e w' ⟨A', c', he, hs, hb⟩ => ⟨_, he, A', c', rfl, hs, hb⟩)) ?_
            rintro u wf ⟨A5, c5, rfl, hsl, hbl2⟩
            have BF := hid (BD.out.trans (hbl2.mono BD.out.size))
            have HM := hid hsl
            have HB2 := hid hbl2
            refine hK.out _ _ BF.out ?_
            (try simp only [Act.put, List.setIfInBounds_toArray, List.set_cons_zero, List.set_cons_succ])
            clear hK K hHeld hsl hbl2
            have hHeld := BF.out
            refine wpAnyG_pure 6 (v := ?_) (fun _ => trivial) (by simp only [List.getElem?_toArray, List.getElem?_cons_succ, List.getElem?_cons_zero]; rfl) (by kernel_rfl) (fun _ _ _ _ _ h => h) ⟨(by rfl), (by intro c h; cases h), ?_⟩ hHeld ?_
            rotate_left
            focus (intro wS hSw; (try replace hSw := HSF.out wS hSw); (try dsimp only at hSw); go_simp; (try with_reducible rfl))
            (try simp only [Act.put, List.setIfInBounds_toArray, List.set_cons_zero, List.set_cons_succ])
            refine wpAnyG_pure 7 (v := ?_) (fun _ => trivial) (by simp only [List.getElem?_toArray, List.getElem?_cons_succ, List.getElem?_cons_zero]; rfl) (by kernel_rfl) (fun _ _ _ _ _ h => h) ⟨(by rfl), (by intro c h; cases h), ?_⟩ hHeld ?_
            rotate_left
            focus (intro wS hSw; (try replace hSw := HSF.out wS hSw); (try dsimp only at hSw); go_simp; (try with_reducible rfl))
            (try simp only [Act.put, List.setIfInBounds_toArray, List.set_cons_zero, List.set_cons_succ])
            refine wpAnyG_pure 8 (v := ?_) (fun _ => trivial) (by simp only [List.getElem?_toArray, List.getElem?_cons_succ, List.getElem?_cons_zero]; rfl) (by kernel_rfl) (fun _ _ _ _ _ h => h) ⟨(by rfl), (by intro c h; cases h), ?_⟩ hHeld ?_
            rotate_left
            focus (intro wS hSw; (try replace hSw := HSF.out wS hSw); (try dsimp only at hSw); go_simp; (try with_reducible rfl))
            (try simp only [Act.put, List.setIfInBounds_toArray, List.set_cons_zero, List.set_cons_succ])
            refine wpAnyS_ready [9] (by kernel_rfl) (by simp) (AllReadyS.cons (by simp only [List.getElem?_toArray, List.getElem?_cons_succ, List.getElem?_cons_zero]; rfl) rfl (fun K hK => ?_) AllReadyS.nil)
            go_simp
            have BE := hid (BF.out.alloc BF.out.size (Obj.cells #[.slice none 0 0, .int .i64 0] 27))
            have XE := hid (Blk.new wf 27 #[.slice none 0 0, .int .i64 0])
            have hge := hid BF.out.size
            have hgs := hid (show wf.heap.size < (wf.alloc (Obj.cells #[.slice none 0 0, .int .i64 0] 27)).heap.size by simp)
            have HMS := hid (show SlR (wf.alloc (Obj.cells #[.slice none 0 0, .int .i64 0] 27)) (wf.alloc (Obj.cells #[.slice none 0 0, .int .i64 0] 27)).heap.size A5 m from (HM.out.alloc (Nat.le_refl _) (Obj.cells #[.slice none 0 0, .int .i64 0] 27)).more (by simp))
            have HSEP := hid (show ∀ ad, A5 = some ad → ad.block ≠ wf.heap.size from fun ad he => by have := HM.out.lo hmpos.out ad he; omega)
            clear HM HB2
            refine hK.out _ _ BE.out ?_
            clear hK K
            (try simp only [Act.put, List.setIfInBounds_toArray, List.set_cons_zero, List.set_cons_succ])
            clear hHeld
            have hHeld := BE.out
            generalize wf.heap.size = gE at *
            generalize (wf.alloc (Obj.cells #[.slice none 0 0, .int .i64 0] 27)) = wE at *
            refine wpAnyS_ready [10] (by kernel_rfl) (by simp) (AllReadyS.cons (by simp only [List.getElem?_toArray, List.getElem?_cons_succ, List.getElem?_cons_zero]; rfl) rfl (fun K hK => ?_) AllReadyS.nil)
            have zE := XE.out.lt; have cE0 := XE.out.cell 0; have cE1 := XE.out.cell 1; have fE := XE.out.frozen
            simp at cE0 cE1
            go_simp
            have HWF := hid ((BE.out.setCell (p := ⟨gE, 0, none⟩) hge.out (.slice A5 l.length c5)).setCell (p := ⟨gE, 1, none⟩) hge.out (.int .i64 (t2)))
            have XF := hid (show Blk ((wE.setCell ⟨gE, 0, none⟩ (.slice A5 l.length c5)).setCell ⟨gE, 1, none⟩ (.int .i64 (t2))) gE 27 #[.slice A5 l.length c5, .int .i64 (t2)] by
              have := (XE.out.set_ 0 (.slice A5 l.length c5)).set_ 1 (.int .i64 (t2))
              simpa using this)
            have HMF := hid (show SlR ((wE.setCell ⟨gE, 0, none⟩ (.slice A5 l.length c5)).setCell ⟨gE, 1, none⟩ (.int .i64 (t2))) ((wE.setCell ⟨gE, 0, none⟩ (.slice A5 l.length c5)).setCell ⟨gE, 1, none⟩ (.int .i64 (t2))).heap.size A5 m by
              have := (HMS.out.farB (p := ⟨gE, 0, none⟩) HSEP.out (.slice A5 l.length c5)).farB (p := ⟨gE, 1, none⟩) HSEP.out (.int .i64 (t2))
              simpa using this)
            refine hK.out _ _ HWF.out ?_
            (try simp only [Act.put, List.setIfInBounds_toArray, List.set_cons_zero, List.set_cons_succ])
            clear hK K hHeld cE0 cE1 fE zE XE HMS HSEP
            have hHeld := HWF.out
            generalize ((wE.setCell ⟨gE, 0, none⟩ (.slice A5 l.length c5)).setCell ⟨gE, 1, none⟩ (.int .i64 (t2))) = wG at *
            refine wpAnyG_pure 11 (v := ?_) (fun _ => trivial) (by simp only [List.getElem?_toArray, List.getElem?_cons_succ, List.getElem?_cons_zero]; rfl) (by kernel_rfl) (fun _ _ _ _ _ h => h) ⟨(by rfl), (by intro c h; cases h), ?_⟩ hHeld ?_
            rotate_left
            focus (intro wS hSw; (try replace hSw := HSF.out wS hSw); (try dsimp only at hSw); go_simp; (try with_reducible rfl))
            (try simp only [Act.put, List.setIfInBounds_toArray, List.set_cons_zero, List.set_cons_succ])
            refine wpAnyS_done (by kernel_rfl) ?_
            clear hHeld
            go_wp2_with fail
            go_meet
            exact ⟨gE, A5, c5, rfl, rfl, XF.out, HMF.out, HWF.out⟩
          · -- the box first
            go_simp
            have BE := hid (BD.out.alloc BD.out.size (Obj.cells #[.slice none 0 0, .int .i64 0] 27))
            have XE := hid (Blk.new wd 27 #[.slice none 0 0, .int .i64 0])
            have hge := hid BD.out.size
            have hgs := hid (show wd.heap.size < (wd.alloc (Obj.cells #[.slice none 0 0, .int .i64 0] 27)).heap.size by simp)
            refine hK.out _ _ BE.out ?_
            clear hK K
            (try simp only [Act.put, List.setIfInBounds_toArray, List.set_cons_zero, List.set_cons_succ])
            clear hHeld
            have hHeld := BE.out
            generalize wd.heap.size = gE at *
            generalize (wd.alloc (Obj.cells #[.slice none 0 0, .int .i64 0] 27)) = wE at *
            refine wpAnyS_ready [5] (by kernel_rfl) (by simp) (AllReadyS.cons (by simp only [List.getElem?_toArray, List.getElem?_cons_succ, List.getElem?_cons_zero]; rfl) rfl (fun K hK => ?_) AllReadyS.nil)
            refine callV (R := fun u w' => ∃ (A5 : Option Addr) (c5 : Nat), u = .tuple #[.agg #[.slice A5 l.length c5, .int .i64 (t2)], .int .i64 0] ∧ SlR w' w'.heap.size A5 m ∧ Below wE.heap.size wE w') (by intro c h; cases h) (by go_simp; try with_reducible rfl) ((HDo.out wE BE.out).mono (fun e w' ⟨A', c', he, hs, hb⟩ => ⟨_, he, A', c', rfl, hs, hb⟩)) ?_
            rintro u wf ⟨A5, c5, rfl, hsl, hbl2⟩
            have BF := hid (BE.out.trans (hbl2.mono BE.out.size))
            have HM := hid hsl
            have HB2 := hid hbl2
            refine hK.out _ _ BF.out ?_
            (try simp only [Act.put, List.setIfInBounds_toArray, List.set_cons_zero, List.set_cons_succ])
            clear hK K hHeld hsl hbl2
            have hHeld := BF.out
            refine wpAnyG_pure 6 (v := ?_) (fun _ => trivial) (by simp only [List.getElem?_toArray, List.getElem?_cons_succ, List.getElem?_cons_zero]; rfl) (by kernel_rfl) (fun _ _ _ _ _ h => h) ⟨(by rfl), (by intro c h; cases h), ?_⟩ hHeld ?_
            rotate_left
            focus (intro wS hSw; (try replace hSw := HSF.out wS hSw); (try dsimp only at hSw); go_simp; (try with_reducible rfl))
            (try simp only [Act.put, List.setIfInBounds_toArray, List.set_cons_zero, List.set_cons_succ])
            refine wpAnyG_pure 7 (v := ?_) (fun _ => trivial) (by simp only [List.getElem?_toArray, List.getElem?_cons_succ, List.getElem?_cons_zero]; rfl) (by kernel_rfl) (fun _ _ _ _ _ h => h) ⟨(by rfl), (by intro c h; cases h), ?_⟩ hHeld ?_
            rotate_left
            focus (intro wS hSw; (try replace hSw := HSF.out wS hSw); (try dsimp only at hSw); go_simp; (try with_reducible rfl))
            (try simp only [Act.put, List.setIfInBounds_toArray, List.set_cons_zero, List.set_cons_succ])
            refine wpAnyG_pure 8 (v := ?_) (fun _ => trivial) (by simp only [List.getElem?_toArray, List.getElem?_cons_succ, List.getElem?_cons_zero]; rfl) (by kernel_rfl) (fun _ _ _ _ _ h => h) ⟨(by rfl), (by intro c h; cases h), ?_⟩ hHeld ?_
            rotate_left
            focus (intro wS hSw; (try replace hSw := HSF.out wS hSw); (try dsimp only at hSw); go_simp; (try with_reducible rfl))
            (try simp only [Act.put, List.setIfInBounds_toArray, List.set_cons_zero, List.set_cons_succ])
            have XE2 := hid (XE.out.below HB2.out XE.out.lt)
            have HSEP := hid (HM.out.sepB hmpos.out XE2.out)
            have HMS := HM
            clear XE HM HB2
            have XE := XE2
            clear XE2
            refine wpAnyS_ready [10] (by kernel_rfl) (by simp) (AllReadyS.cons (by simp only [List.getElem?_toArray, List.getElem?_cons_succ, List.getElem?_cons_zero]; rfl) rfl (fun K hK => ?_) AllReadyS.nil)
            have zE := XE.out.lt; have cE0 := XE.out.cell 0; have cE1 := XE.out.cell 1; have fE := XE.out.frozen
            simp at cE0 cE1
            go_simp
            have HWF := hid ((BF.out.setCell (p := ⟨gE, 0, none⟩) hge.out (.slice A5 l.length c5)).setCell (p := ⟨gE, 1, none⟩) hge.out (.int .i64 (t2)))
            have XF := hid (show Blk ((wf.setCell ⟨gE, 0, none⟩ (.slice A5 l.length c5)).setCell ⟨gE, 1, none⟩ (.int .i64 (t2))) gE 27 #[.slice A5 l.length c5, .int .i64 (t2)] by
              have := (XE.out.set_ 0 (.slice A5 l.length c5)).set_ 1 (.int .i64 (t2))
              simpa using this)
            have HMF := hid (show SlR ((wf.setCell ⟨gE, 0, none⟩ (.slice A5 l.length c5)).setCell ⟨gE, 1, none⟩ (.int .i64 (t2))) ((wf.setCell ⟨gE, 0, none⟩ (.slice A5 l.length c5)).setCell ⟨gE, 1, none⟩ (.int .i64 (t2))).heap.size A5 m by
              have := (HMS.out.farB (p := ⟨gE, 0, none⟩) HSEP.out (.slice A5 l.length c5)).farB (p := ⟨gE, 1, none⟩) HSEP.out (.int .i64 (t2))
              simpa using this)
            refine hK.out _ _ HWF.out ?_
            (try simp only [Act.put, List.setIfInBounds_toArray, List.set_cons_zero, List.set_cons_succ])
            clear hK K hHeld cE0 cE1 fE zE XE HMS HSEP
            have hHeld := HWF.out
            generalize ((wf.setCell ⟨gE, 0, none⟩ (.slice A5 l.length c5)).setCell ⟨gE, 1, none⟩ (.int .i64 (t2))) = wG at *
            refine wpAnyG_pure 11 (v := ?_) (fun _ => trivial) (by simp only [List.getElem?_toArray, List.getElem?_cons_succ, List.getElem?_cons_zero]; rfl) (by kernel_rfl) (fun _ _ _ _ _ h => h) ⟨(by rfl), (by intro c h; cases h), ?_⟩ hHeld ?_
            rotate_left
            focus (intro wS hSw; (try replace hSw := HSF.out wS hSw); (try dsimp only at hSw); go_simp; (try with_reducible rfl))
            (try simp only [Act.put, List.setIfInBounds_toArray, List.set_cons_zero, List.set_cons_succ])
            refine wpAnyS_done (by kernel_rfl) ?_
            clear hHeld
            go_wp2_with fail
            go_meet
            exact ⟨gE, A5, c5, rfl, rfl, XF.out, HMF.out, HWF.out⟩
        case rest =>
          obtain ⟨g, A5, c5, rfl, rfl, hX5, hS5, hB⟩ := hcut
          obtain ⟨wv, hwv⟩ : ∃ wv, wv = wc := ⟨_, rfl⟩
          subst hwv
          have X5 := hid hX5
          have S5 := hid hS5
          have Byc := hid hB
          have B1c := hid (B1y.out.trans (hB.mono B1y.out.size))
          have B4c := hid (B4y.out.trans (hB.mono B4y.out.size))
          have s0c := (bcell hB _ _ zS).trans s0
          have s1c := (bcell hB _ _ zS).trans s1
          have zSc : bS < wv.heap.size := by have := hB.size; omega
          clear hX5 hS5 hB HSF HDo k0 k1 k2 k3 k4 l0 l1 xz lz s0 s1 zS
          obtain ⟨⟨k0, k1, k2, k3, k4⟩, l0, l1, xz, lz⟩ := HX.out wv B1c.out
          have m0 := X5.out.cell 0; have m1 := X5.out.cell 1; have mz := X5.out.lt
          simp at m0 m1
          obtain ⟨bR, oR, hAR, hbR, ra, -⟩ := (HR.out wv B1c.out).int HOK.out.ar
          obtain ⟨bR', oR', hAR', hbR', rb, -⟩ := (HR.out wv B1c.out).int HOK.out.br
          have hRR := hAR.symm.trans hAR'
          injection hRR with hRR
          injection hRR with hRR1 hRR2
          subst hRR1 hRR2 hAR
          clear hAR' hbR'
          have har : (a : Int) < r.length := by have := HOK.out.ar; omega
          have hbr : (b : Int) < r.length := by have := HOK.out.br; omega
          have hgets := HP.out.gets
          rw [show r.getD a 0 = r[a]'HOK.out.ar by rw [List.getD_eq_getElem?_getD, List.getElem?_eq_getElem HOK.out.ar]; rfl, show r.getD b 0 = r[b]'HOK.out.br by rw [List.getD_eq_getElem?_getD, List.getElem?_eq_getElem HOK.out.br]; rfl] at hgets
          have HGT := hid hgets
          clear hgets
          generalize r[a]'HOK.out.ar = xa at *
          generalize r[b]'HOK.out.br = xb at *
          have hm24 : m.length ≤ maxLen := by rw [hml.out]; unfold maxLen; omega
          have HR1 := hid (fun (W' : World) (hW : Below wv.heap.size wv W') => right_any A5 c5 m t2 W' hm24 ((S5.out.below hW).more hW.size))
          rw [hml.out, hmR.out] at HR1
          have HSH1 := hid (fun (W' : World) (hW : Below wv.heap.size wv W') => shelves_any A5 c5 m t2 W' hm24 ((S5.out.below hW).more hW.size))
          rw [hml.out, hmC.out] at HSH1
          have HSH2 := hid (fun (W' : World) (hW : Below wv.heap.size wv W') => shelves_any Al cl l t W' (by unfold maxLen; omega) (HL.out W' (B1c.out.trans (hW.mono B1c.out.size))))
          have HGE := hid (fun (W' : World) (hW : Below wv.heap.size wv W') => gets_any W H D Ak Ao ck co kind out xa xb W' HRF.out (HK.out W' (B1c.out.trans (hW.mono B1c.out.size))) (HO.out W' (B1c.out.trans (hW.mono B1c.out.size))))
          rw [HGT.out] at HGE
          have HBK := hid (fun (W' : World) (hW : Below wv.heap.size wv W') => backsT_any W H D Ak Ao ck co kind out _ A5 cr c5 r m t2 W' HRF.out (HK.out W' (B1c.out.trans (hW.mono B1c.out.size))) (HO.out W' (B1c.out.trans (hW.mono B1c.out.size))) (HR.out W' (B1c.out.trans (hW.mono B1c.out.size))) ((S5.out.below hW).more hW.size) HPW.out (HRL.out.trans hml.out.symm) (by rw [hml.out]; exact hl24))
          rw [hml.out] at HBK
          have HSF := hid (fun (wq : World) (hq : Below wv.heap.size wv wq) => And.intro ((bcell hq _ _ lz).trans l0) (And.intro ((bcell hq _ _ lz).trans l1) (And.intro ((bcell hq _ _ zSc).trans s0c) (And.intro ((bcell hq _ _ zSc).trans s1c) (And.intro ((bcell hq _ _ mz).trans m0) (And.intro ((bcell hq _ _ mz).trans m1) (And.intro ((bcell hq _ _ hbR).trans ra) (And.intro ((bcell hq _ _ hbR).trans rb) (And.intro ((bcell hq _ _ xz).trans k0) (And.intro ((bcell hq _ _ xz).trans k1) (And.intro ((bcell hq _ _ xz).trans k2) (And.intro ((bcell hq _ _ xz).trans k3) ((bcell hq _ _ xz).trans k4)))))))))))))
          clear k0 k1 k2 k3 k4 l0 l1 m0 m1 s0c s1c ra rb HP
          have BD := hid ((Below.refl wv.heap.size wv).drew)
          go_upto_region 9 with fail
          refine wpIn_wide.1 (wpIn_region_S (n := 0) (fun wq => Below wv.heap.size wv wq) [] (by kernel_rfl) BD.out (fun hHeld => ?_))
          generalize wv.drew = wd at *
          refine wpAnyG_pure 0 (v := ?_) (fun _ => trivial) (by simp only [List.getElem?_toArray, List.getElem?_cons_succ, List.getElem?_cons_zero]; rfl) (by kernel_rfl) (fun _ _ _ _ _ h => h) ⟨(by rfl), (by intro c h; cases h), ?_⟩ hHeld ?_
          rotate_left
          focus (intro wS hSw; (try replace hSw := HSF.out wS hSw); (try dsimp only at hSw); go_simp; (try with_reducible rfl))
          (try simp only [Act.put, List.setIfInBounds_toArray, List.set_cons_zero, List.set_cons_succ])
          refine wpAnyG_pure 1 (v := ?_) (fun _ => trivial) (by simp only [List.getElem?_toArray, List.getElem?_cons_succ, List.getElem?_cons_zero]; rfl) (by kernel_rfl) (fun _ _ _ _ _ h => h) ⟨(by rfl), (by intro c h; cases h), ?_⟩ hHeld ?_
          rotate_left
          focus (intro wS hSw; (try replace hSw := HSF.out wS hSw); (try dsimp only at hSw); go_simp; (try with_reducible rfl))
          (try simp only [Act.put, List.setIfInBounds_toArray, List.set_cons_zero, List.set_cons_succ])
          refine wpAnyG_pure 2 (v := ?_) (fun _ => trivial) (by simp only [List.getElem?_toArray, List.getElem?_cons_succ, List.getElem?_cons_zero]; rfl) (by kernel_rfl) (fun _ _ _ _ _ h => h) ⟨(by rfl), (by intro c h; cases h), ?_⟩ hHeld ?_
          rotate_left
          focus (intro wS hSw; (try replace hSw := HSF.out wS hSw); (try dsimp only at hSw); go_simp; (try with_reducible rfl))
          (try simp only [Act.put, List.setIfInBounds_toArray, List.set_cons_zero, List.set_cons_succ])
          refine wpAnyG_take 3 (v := ?_) (fun _ => trivial) (by simp only [List.getElem?_toArray, List.getElem?_cons_succ, List.getElem?_cons_zero]; rfl) (by kernel_rfl) (fun _ _ _ _ _ h => h) ⟨(by rfl), (by intro c h; cases h), ?_⟩ hHeld ?_
          rotate_left
          focus (intro wS hSw; (try replace hSw := HSF.out wS hSw); (try dsimp only at hSw); go_simp; (try with_reducible rfl))
          (try simp only [Act.put, List.setIfInBounds_toArray, List.set_cons_zero, List.set_cons_succ])
          refine wpAnyS_ready [4] (by kernel_rfl) (by simp) (AllReadyS.consG (by simp only [List.getElem?_toArray, List.getElem?_cons_succ, List.getElem?_cons_zero]; rfl) (by rfl) (fun K hK => ?_) AllReadyS.nil)
          refine callS (by intro c h; cases h) (by go_simp; try with_reducible rfl) (HR1.out _ BD.out) ?_
          intro w5 hBq
          have B5 := hid (BD.out.trans (hBq.mono BD.out.size))
          refine hK.out _ _ B5.out ?_
          (try simp only [Act.put, List.setIfInBounds_toArray, List.set_cons_zero, List.set_cons_succ])
          clear hK K hBq
          clear hHeld
          have hHeld := B5.out
          refine wpAnyG_pure 5 (v := ?_) (fun _ => trivial) (by simp only [List.getElem?_toArray, List.getElem?_cons_succ, List.getElem?_cons_zero]; rfl) (by kernel_rfl) (fun _ _ _ _ _ h => h) ⟨(by rfl), (by intro c h; cases h), ?_⟩ hHeld ?_
          rotate_left
          focus (intro wS hSw; (try replace hSw := HSF.out wS hSw); (try dsimp only at hSw); go_simp; (try with_reducible rfl))
          (try simp only [Act.put, List.setIfInBounds_toArray, List.set_cons_zero, List.set_cons_succ])
          refine wpAnyG_pure 6 (v := ?_) (fun _ => trivial) (by simp only [List.getElem?_toArray, List.getElem?_cons_succ, List.getElem?_cons_zero]; rfl) (by kernel_rfl) (fun _ _ _ _ _ h => h) ⟨(by rfl), (by intro c h; cases h), ?_⟩ hHeld ?_
          rotate_left
          focus (intro wS hSw; (try replace hSw := HSF.out wS hSw); (try dsimp only at hSw); go_simp; (try with_reducible rfl))
          (try simp only [Act.put, List.setIfInBounds_toArray, List.set_cons_zero, List.set_cons_succ])
          refine wpAnyG_pure 7 (v := ?_) (fun _ => trivial) (by simp only [List.getElem?_toArray, List.getElem?_cons_succ, List.getElem?_cons_zero]; rfl) (by kernel_rfl) (fun _ _ _ _ _ h => h) ⟨(by rfl), (by intro c h; cases h), ?_⟩ hHeld ?_
          rotate_left
          focus (intro wS hSw; (try replace hSw := HSF.out wS hSw); (try dsimp only at hSw); go_simp; (try with_reducible rfl))
          (try simp only [Act.put, List.setIfInBounds_toArray, List.set_cons_zero, List.set_cons_succ])
          refine wpAnyG_take 8 (v := ?_) (fun _ => trivial) (by simp only [List.getElem?_toArray, List.getElem?_cons_succ, List.getElem?_cons_zero]; rfl) (by kernel_rfl) (fun _ _ _ _ _ h => h) ⟨(by rfl), (by intro c h; cases h), ?_⟩ hHeld ?_
          rotate_left
          focus (intro wS hSw; (try replace hSw := HSF.out wS hSw); (try dsimp only at hSw); go_simp; (try with_reducible rfl))
          (try simp only [Act.put, List.setIfInBounds_toArray, List.set_cons_zero, List.set_cons_succ])
          refine wpAnyG_take 10 (v := ?_) (fun _ => trivial) (by simp only [List.getElem?_toArray, List.getElem?_cons_succ, List.getElem?_cons_zero]; rfl) (by kernel_rfl) (fun _ _ _ _ _ h => h) ⟨(by rfl), (by intro c h; cases h), ?_⟩ hHeld ?_
          rotate_left
          focus (intro wS hSw; (try replace hSw := HSF.out wS hSw); (try dsimp only at hSw); go_simp; (try with_reducible rfl))
          (try simp only [Act.put, List.setIfInBounds_toArray, List.set_cons_zero, List.set_cons_succ])
          refine wpAnyS_ready [9] (by kernel_rfl) (by simp) (AllReadyS.consG (by simp only [List.getElem?_toArray, List.getElem?_cons_succ, List.getElem?_cons_zero]; rfl) (by rfl) (fun K hK => ?_) AllReadyS.nil)
          refine callS (by intro c h; cases h) (by go_simp; try with_reducible rfl) (HSH1.out _ B5.out) ?_
          intro w6 hBq
          have B6 := hid (B5.out.trans (hBq.mono B5.out.size))
          refine hK.out _ _ B6.out ?_
          (try simp only [Act.put, List.setIfInBounds_toArray, List.set_cons_zero, List.set_cons_succ])
          clear hK K hBq
          clear hHeld
          have hHeld := B6.out
          refine wpAnyS_ready [11] (by kernel_rfl) (by simp) (AllReadyS.consG (by simp only [List.getElem?_toArray, List.getElem?_cons_succ, List.getElem?_cons_zero]; rfl) (by rfl) (fun K hK => ?_) AllReadyS.nil)
          refine callS (by intro c h; cases h) (by go_simp; try with_reducible rfl) (HSH2.out _ B6.out) ?_
          intro w7 hBq
          have B7 := hid (B6.out.trans (hBq.mono B6.out.size))
          refine hK.out _ _ B7.out ?_
          (try simp only [Act.put, List.setIfInBounds_toArray, List.set_cons_zero, List.set_cons_succ])
          clear hK K hBq
          clear hHeld
          have hHeld := B7.out
          refine wpAnyG_pure 12 (v := ?_) (fun _ => trivial) (by simp only [List.getElem?_toArray, List.getElem?_cons_succ, List.getElem?_cons_zero]; rfl) (by kernel_rfl) (fun _ _ _ _ _ h => h) ⟨(by rfl), (by intro c h; cases h), ?_⟩ hHeld ?_
          rotate_left
          focus (intro wS hSw; (try replace hSw := HSF.out wS hSw); (try dsimp only at hSw); go_simp; (try with_reducible rfl))
          (try simp only [Act.put, List.setIfInBounds_toArray, List.set_cons_zero, List.set_cons_succ])
          refine wpAnyG_pure 13 (v := ?_) (fun _ => trivial) (by simp only [List.getElem?_toArray, List.getElem?_cons_succ, List.getElem?_cons_zero]; rfl) (by kernel_rfl) (fun _ _ _ _ _ h => h) ⟨(by rfl), (by intro c h; cases h), ?_⟩ hHeld ?_
          rotate_left
          focus (intro wS hSw; (try replace hSw := HSF.out wS hSw); (try dsimp only at hSw); go_simp; (try with_reducible rfl))
          (try simp only [Act.put, List.setIfInBounds_toArray, List.set_cons_zero, List.set_cons_succ])
          refine wpAnyG_pure 14 (v := ?_) (fun _ => trivial) (by simp only [List.getElem?_toArray, List.getElem?_cons_succ, List.getElem?_cons_zero]; rfl) (by kernel_rfl) (fun _ _ _ _ _ h => h) ⟨(by rfl), (by intro c h; cases h), ?_⟩ hHeld ?_
          rotate_left
          focus (intro wS hSw; (try replace hSw := HSF.out wS hSw); (try dsimp only at hSw); go_simp; (try with_reducible rfl))
          (try simp only [Act.put, List.setIfInBounds_toArray, List.set_cons_zero, List.set_cons_succ])
          refine wpAnyG_pure 15 (v := ?_) (fun _ => trivial) (by simp only [List.getElem?_toArray, List.getElem?_cons_succ, List.getElem?_cons_zero]; rfl) (by kernel_rfl) (fun _ _ _ _ _ h => h) ⟨(by rfl), (by intro c h; cases h), ?_⟩ hHeld ?_
          rotate_left
          focus (intro wS hSw; (try replace hSw := HSF.out wS hSw); (try dsimp only at hSw); go_simp; (try with_reducible rfl))
          (try simp only [Act.put, List.setIfInBounds_toArray, List.set_cons_zero, List.set_cons_succ])
          refine wpAnyG_take 16 (v := ?_) (fun _ => trivial) (by simp only [List.getElem?_toArray, List.getElem?_cons_succ, List.getElem?_cons_zero]; rfl) (by kernel_rfl) (fun _ _ _ _ _ h => h) ⟨(by rfl), (by intro c h; cases h), ?_⟩ hHeld ?_
          rotate_left
          focus (intro wS hSw; (try replace hSw := HSF.out wS hSw); (try dsimp only at hSw); go_simp; (try with_reducible rfl))
          (try simp only [Act.put, List.setIfInBounds_toArray, List.set_cons_zero, List.set_cons_succ])
          refine wpAnyG_pure 17 (v := ?_) (fun _ => trivial) (by simp only [List.getElem?_toArray, List.getElem?_cons_succ, List.getElem?_cons_zero]; rfl) (by kernel_rfl) (fun _ _ _ _ _ h => h) ⟨(by rfl), (by intro c h; cases h), ?_⟩ hHeld ?_
          rotate_left
          focus (intro wS hSw; (try replace hSw := HSF.out wS hSw); (try dsimp only at hSw); go_simp; (try with_reducible rfl))
          (try simp only [Act.put, List.setIfInBounds_toArray, List.set_cons_zero, List.set_cons_succ])
          refine wpAnyG_pure 18 (v := ?_) (fun _ => trivial) (by simp only [List.getElem?_toArray, List.getElem?_cons_succ, List.getElem?_cons_zero]; rfl) (by kernel_rfl) (fun _ _ _ _ _ h => h) ⟨(by rfl), (by intro c h; cases h), ?_⟩ hHeld ?_
          rotate_left
          focus (intro wS hSw; (try replace hSw := HSF.out wS hSw); (try dsimp only at hSw); go_simp; (try with_reducible rfl))
          (try simp only [Act.put, List.setIfInBounds_toArray, List.set_cons_zero, List.set_cons_succ])
          refine wpAnyG_take 19 (v := ?_) (fun _ => trivial) (by simp only [List.getElem?_toArray, List.getElem?_cons_succ, List.getElem?_cons_zero]; rfl) (by kernel_rfl) (fun _ _ _ _ _ h => h) ⟨(by rfl), (by intro c h; cases h), ?_⟩ hHeld ?_
          rotate_left
          focus (intro wS hSw; (try replace hSw := HSF.out wS hSw); (try dsimp only at hSw); go_simp; (try with_reducible rfl))
          (try simp only [Act.put, List.setIfInBounds_toArray, List.set_cons_zero, List.set_cons_succ])
          refine wpAnyG_pure 20 (v := ?_) (fun _ => trivial) (by simp only [List.getElem?_toArray, List.getElem?_cons_succ, List.getElem?_cons_zero]; rfl) (by kernel_rfl) (fun _ _ _ _ _ h => h) ⟨(by rfl), (by intro c h; cases h), ?_⟩ hHeld ?_
          rotate_left
          focus (intro wS hSw; (try replace hSw := HSF.out wS hSw); (try dsimp only at hSw); go_simp; (try with_reducible rfl))
          (try simp only [Act.put, List.setIfInBounds_toArray, List.set_cons_zero, List.set_cons_succ])
          refine wpAnyG_pure 21 (v := ?_) (fun _ => trivial) (by simp only [List.getElem?_toArray, List.getElem?_cons_succ, List.getElem?_cons_zero]; rfl) (by kernel_rfl) (fun _ _ _ _ _ h => h) ⟨(by rfl), (by intro c h; cases h), ?_⟩ hHeld ?_
          rotate_left
          focus (intro wS hSw; (try replace hSw := HSF.out wS hSw); (try dsimp only at hSw); go_simp; (try with_reducible rfl))
          (try simp only [Act.put, List.setIfInBounds_toArray, List.set_cons_zero, List.set_cons_succ])
          refine wpAnyG_pure 22 (v := ?_) (fun _ => trivial) (by simp only [List.getElem?_toArray, List.getElem?_cons_succ, List.getElem?_cons_zero]; rfl) (by kernel_rfl) (fun _ _ _ _ _ h => h) ⟨(by rfl), (by intro c h; cases h), ?_⟩ hHeld ?_
          rotate_left
          focus (intro wS hSw; (try replace hSw := HSF.out wS hSw); (try dsimp only at hSw); go_simp; (try with_reducible rfl))
          (try simp only [Act.put, List.setIfInBounds_toArray, List.set_cons_zero, List.set_cons_succ])
          refine wpAnyS_done (by kernel_rfl) ?_
          clear hHeld HR1 HSH1 HSH2 B5 B6 BD
          have h12 := HSF.out w7 B7.out
          obtain ⟨l0, l1, s0, s1, m0, m1, ra, rb, k0, k1, k2, k3, k4⟩ := h12
          go_upto_region 12 with fail
          go_loopw [12] (fun i wr => ∃ j : Nat, j ≤ l.length ∧ i = .int .i64 j ∧ Below wv.heap.size wv wr) (fun i _ => l.length - (intOf i).toNat)
          case atStart => exact ⟨0, by omega, rfl, B7.out⟩
          case round =>
            clear l0 l1 s0 s1 m0 m1 ra rb k0 k1 k2 k3 k4
            obtain ⟨j, hj, rfl, hB⟩ := hrel
            have Bcr := hid hB
            obtain ⟨l0, l1, s0, s1, m0, m1, ra, rb, k0, k1, k2, k3, k4⟩ := HSF.out wr hB
            clear hB
            by_cases hjl : j < l.length
            case pos =>
              as_aux_lemma =>
                have hjl' : (j : Int) < l.length := by omega
                have hjm : j < m.length := by rw [hml.out]; exact hjl
                obtain ⟨bL, oL, hAL, hbL, lc⟩ := (HL.out wr (B1c.out.trans (Bcr.out.mono B1c.out.size))).bool hjl
                obtain ⟨bM, oM, hAM, hbM, mc⟩ := ((S5.out.below Bcr.out).more Bcr.out.size).bool hjm
                have hmj := hmA.out j hjl
                rw [List.getElem?_eq_getElem hjm] at hmj
                injection hmj with hmj
                rw [hmj] at mc
                subst hAL hAM
                have xzr : w.heap.size < wr.heap.size := by have := Bcr.out.size; omega
                have lzr : w.heap.size + 1 < wr.heap.size := by have := Bcr.out.size; omega
                have zSr : bS < wr.heap.size := by have := Bcr.out.size; omega
                have mzr : g < wr.heap.size := by have := Bcr.out.size; omega
                have hne : b ≠ a := fun e => by have h1 := hmA.out a hal; have h2 := HOK.out.fa; have h3 := HOK.out.fb; rw [getB_at hal] at h2; rw [getB_at hbl] at h3; subst e; exact h3 h2
                have hla : l[a] = true := by have h2 := HOK.out.fa; rwa [getB_at hal] at h2
                have hlb : l[b] = false := by have h3 := HOK.out.fb; rw [getB_at hbl] at h3; simpa using h3
                have HSF2 := HSF
                clear HSF
                have HSF := hid (fun (wq : World) (hq : Below wr.heap.size wr wq) => And.intro ((bcell hq _ _ lzr).trans l0) (And.intro ((bcell hq _ _ mzr).trans m0) (And.intro ((bcell hq _ _ hbL).trans lc) (And.intro ((bcell hq _ _ hbM).trans mc) (And.intro ((bcell hq _ _ zSr).trans s0) ((bcell hq _ _ zSr).trans s1))))))
                clear hmj l1 s0 s1 m0 m1 ra rb k0 k1 k2 k3 k4 lc mc HSF2
                have BD := hid ((Below.refl wr.heap.size wr).drew)
                have hmjl : (j : Int) < m.length := by omega
                by_cases hja : a = j
                case pos =>
                  subst hja
                  rw [if_neg hne, if_pos rfl, hla] at HSF
                  clear hla hlb
                  go_upto_region 14 with fail
                  refine wpIn_wide.1 (wpIn_region_S (n := 0) (fun wq => Below wr.heap.size wr wq) [] (by kernel_rfl) BD.out (fun hHeld => ?_))
                  generalize wr.drew = wd at *
                  refine wpAnyG_pure 0 (v := ?_) (fun _ => trivial) (by simp only [List.getElem?_toArray, List.getElem?_cons_succ, List.getElem?_cons_zero]; rfl) (by kernel_rfl) (fun _ _ _ _ _ h => h) ⟨(by rfl), (by intro c h; cases h), ?_⟩ hHeld ?_
                  rotate_left
                  focus (intro wS hSw; (try replace hSw := HSF.out wS hSw); (try dsimp only at hSw); go_simp; (try with_reducible rfl))
                  (try simp only [Act.put, List.setIfInBounds_toArray, List.set_cons_zero, List.set_cons_succ])
                  refine wpAnyG_take 1 (v := ?_) (fun _ => trivial) (by simp only [List.getElem?_toArray, List.getElem?_cons_succ, List.getElem?_cons_zero]; rfl) (by kernel_rfl) (fun _ _ _ _ _ h => h) ⟨(by rfl), (by intro c h; cases h), ?_⟩ hHeld ?_
                  rotate_left
                  focus (intro wS hSw; (try replace hSw := HSF.out wS hSw); (try dsimp only at hSw); go_simp; (try with_reducible rfl))
                  (try simp only [Act.put, List.setIfInBounds_toArray, List.set_cons_zero, List.set_cons_succ])
                  refine wpAnyG_pure 2 (v := ?_) (fun _ => trivial) (by simp only [List.getElem?_toArray, List.getElem?_cons_succ, List.getElem?_cons_zero]; rfl) (by kernel_rfl) (fun _ _ _ _ _ h => h) ⟨(by rfl), (by intro c h; cases h), ?_⟩ hHeld ?_
                  rotate_left
                  focus (intro wS hSw; (try replace hSw := HSF.out wS hSw); (try dsimp only at hSw); go_simp; (try with_reducible rfl))
                  (try simp only [Act.put, List.setIfInBounds_toArray, List.set_cons_zero, List.set_cons_succ])
                  refine wpAnyG_pure 3 (v := ?_) (fun _ => trivial) (by simp only [List.getElem?_toArray, List.getElem?_cons_succ, List.getElem?_cons_zero]; rfl) (by kernel_rfl) (fun _ _ _ _ _ h => h) ⟨(by rfl), (by intro c h; cases h), ?_⟩ hHeld ?_
                  rotate_left
                  focus (intro wS hSw; (try replace hSw := HSF.out wS hSw); (try dsimp only at hSw); go_simp; (try with_reducible rfl))
                  (try simp only [Act.put, List.setIfInBounds_toArray, List.set_cons_zero, List.set_cons_succ])
                  refine wpAnyG_take 4 (v := ?_) (fun _ => trivial) (by simp only [List.getElem?_toArray, List.getElem?_cons_succ, List.getElem?_cons_zero]; rfl) (by kernel_rfl) (fun _ _ _ _ _ h => h) ⟨(by rfl), (by intro c h; cases h), ?_⟩ hHeld ?_
                  rotate_left
                  focus (intro wS hSw; (try replace hSw := HSF.out wS hSw); (try dsimp only at hSw); go_simp; (try with_reducible rfl))
                  (try simp only [Act.put, List.setIfInBounds_toArray, List.set_cons_zero, List.set_cons_succ])
                  refine wpAnyG_pure 5 (v := ?_) (fun _ => trivial) (by simp only [List.getElem?_toArray, List.getElem?_cons_succ, List.getElem?_cons_zero]; rfl) (by kernel_rfl) (fun _ _ _ _ _ h => h) ⟨(by rfl), (by intro c h; cases h), ?_⟩ hHeld ?_
                  rotate_left
                  focus (intro wS hSw; (try replace hSw := HSF.out wS hSw); (try dsimp only at hSw); go_simp; (try with_reducible rfl))
                  (try simp only [Act.put, List.setIfInBounds_toArray, List.set_cons_zero, List.set_cons_succ])
                  refine wpAnyG_take 6 (v := ?_) (fun _ => trivial) (by simp only [List.getElem?_toArray, List.getElem?_cons_succ, List.getElem?_cons_zero]; rfl) (by kernel_rfl) (fun _ _ _ _ _ h => h) ⟨(by rfl), (by intro c h; cases h), ?_⟩ hHeld ?_
                  rotate_left
                  focus (intro wS hSw; (try replace hSw := HSF.out wS hSw); (try dsimp only at hSw); go_simp; (try with_reducible rfl))
                  (try simp only [Act.put, List.setIfInBounds_toArray, List.set_cons_zero, List.set_cons_succ])
                  refine wpAnyG_pure 7 (v := ?_) (fun _ => trivial) (by simp only [List.getElem?_toArray, List.getElem?_cons_succ, List.getElem?_cons_zero]; rfl) (by kernel_rfl) (fun _ _ _ _ _ h => h) ⟨(by rfl), (by intro c h; cases h), ?_⟩ hHeld ?_
                  rotate_left
                  focus (intro wS hSw; (try replace hSw := HSF.out wS hSw); (try dsimp only at hSw); go_simp; (try with_reducible rfl))
                  (try simp only [Act.put, List.setIfInBounds_toArray, List.set_cons_zero, List.set_cons_succ])
                  refine wpAnyG_pure 8 (v := ?_) (fun _ => trivial) (by simp only [List.getElem?_toArray, List.getElem?_cons_succ, List.getElem?_cons_zero]; rfl) (by kernel_rfl) (fun _ _ _ _ _ h => h) ⟨(by rfl), (by intro c h; cases h), ?_⟩ hHeld ?_
                  rotate_left
                  focus (intro wS hSw; (try replace hSw := HSF.out wS hSw); (try dsimp only at hSw); go_simp; (try with_reducible rfl))
                  (try simp only [Act.put, List.setIfInBounds_toArray, List.set_cons_zero, List.set_cons_succ])
                  refine wpAnyG_take 9 (v := ?_) (fun _ => trivial) (by simp only [List.getElem?_toArray, List.getElem?_cons_succ, List.getElem?_cons_zero]; rfl) (by kernel_rfl) (fun _ _ _ _ _ h => h) ⟨(by rfl), (by intro c h; cases h), ?_⟩ hHeld ?_
                  rotate_left
                  focus (intro wS hSw; (try replace hSw := HSF.out wS hSw); (try dsimp only at hSw); go_simp; (try with_reducible rfl))
                  (try simp only [Act.put, List.setIfInBounds_toArray, List.set_cons_zero, List.set_cons_succ])
                  refine wpAnyG_pure 10 (v := ?_) (fun _ => trivial) (by simp only [List.getElem?_toArray, List.getElem?_cons_succ, List.getElem?_cons_zero]; rfl) (by kernel_rfl) (fun _ _ _ _ _ h => h) ⟨(by rfl), (by intro c h; cases h), ?_⟩ hHeld ?_
                  rotate_left
                  focus (intro wS hSw; (try replace hSw := HSF.out wS hSw); (try dsimp only at hSw); go_simp; (try with_reducible rfl))
                  (try simp only [Act.put, List.setIfInBounds_toArray, List.set_cons_zero, List.set_cons_succ])
                  refine wpAnyG_pure 11 (v := ?_) (fun _ => trivial) (by simp only [List.getElem?_toArray, List.getElem?_cons_succ, List.getElem?_cons_zero]; rfl) (by kernel_rfl) (fun _ _ _ _ _ h => h) ⟨(by rfl), (by intro c h; cases h), ?_⟩ hHeld ?_
                  rotate_left
                  focus (intro wS hSw; (try replace hSw := HSF.out wS hSw); (try dsimp only at hSw); go_simp; (try with_reducible rfl))
                  (try simp only [Act.put, List.setIfInBounds_toArray, List.set_cons_zero, List.set_cons_succ])
                  refine wpAnyG_pure 12 (v := ?_) (fun _ => trivial) (by simp only [List.getElem?_toArray, List.getElem?_cons_succ, List.getElem?_cons_zero]; rfl) (by kernel_rfl) (fun _ _ _ _ _ h => h) ⟨(by rfl), (by intro c h; cases h), ?_⟩ hHeld ?_
                  rotate_left
                  focus (intro wS hSw; (try replace hSw := HSF.out wS hSw); (try dsimp only at hSw); go_simp; (try with_reducible rfl))
                  (try simp only [Act.put, List.setIfInBounds_toArray, List.set_cons_zero, List.set_cons_succ])
                  refine wpAnyG_pure 13 (v := ?_) (fun _ => trivial) (by simp only [List.getElem?_toArray, List.getElem?_cons_succ, List.getElem?_cons_zero]; rfl) (by kernel_rfl) (fun _ _ _ _ _ h => h) ⟨(by rfl), (by intro c h; cases h), ?_⟩ hHeld ?_
                  rotate_left
                  focus (intro wS hSw; (try replace hSw := HSF.out wS hSw); (try dsimp only at hSw); go_simp; (try with_reducible rfl))
                  (try simp only [Act.put, List.setIfInBounds_toArray, List.set_cons_zero, List.set_cons_succ])
                  refine wpAnyG_pure 14 (v := ?_) (fun _ => trivial) (by simp only [List.getElem?_toArray, List.getElem?_cons_succ, List.getElem?_cons_zero]; rfl) (by kernel_rfl) (fun _ _ _ _ _ h => h) ⟨(by rfl), (by intro c h; cases h), ?_⟩ hHeld ?_
                  rotate_left
                  focus (intro wS hSw; (try replace hSw := HSF.out wS hSw); (try dsimp only at hSw); go_simp; (try with_reducible rfl))
                  (try simp only [Act.put, List.setIfInBounds_toArray, List.set_cons_zero, List.set_cons_succ])
                  refine wpAnyG_pure 15 (v := ?_) (fun _ => trivial) (by simp only [List.getElem?_toArray, List.getElem?_cons_succ, List.getElem?_cons_zero]; rfl) (by kernel_rfl) (fun _ _ _ _ _ h => h) ⟨(by rfl), (by intro c h; cases h), ?_⟩ hHeld ?_
                  rotate_left
                  focus (intro wS hSw; (try replace hSw := HSF.out wS hSw); (try dsimp only at hSw); go_simp; (try with_reducible rfl))
                  (try simp only [Act.put, List.setIfInBounds_toArray, List.set_cons_zero, List.set_cons_succ])
                  refine wpAnyG_take 16 (v := ?_) (fun _ => trivial) (by simp only [List.getElem?_toArray, List.getElem?_cons_succ, List.getElem?_cons_zero]; rfl) (by kernel_rfl) (fun _ _ _ _ _ h => h) ⟨(by rfl), (by intro c h; cases h), ?_⟩ hHeld ?_
                  rotate_left
                  focus (intro wS hSw; (try replace hSw := HSF.out wS hSw); (try dsimp only at hSw); go_simp; (try with_reducible rfl))
                  (try simp only [Act.put, List.setIfInBounds_toArray, List.set_cons_zero, List.set_cons_succ])
                  refine wpAnyG_pure 17 (v := ?_) (fun _ => trivial) (by simp only [List.getElem?_toArray, List.getElem?_cons_succ, List.getElem?_cons_zero]; rfl) (by kernel_rfl) (fun _ _ _ _ _ h => h) ⟨(by rfl), (by intro c h; cases h), ?_⟩ hHeld ?_
                  rotate_left
                  focus (intro wS hSw; (try replace hSw := HSF.out wS hSw); (try dsimp only at hSw); go_simp; (try with_reducible rfl))
                  (try simp only [Act.put, List.setIfInBounds_toArray, List.set_cons_zero, List.set_cons_succ])
                  refine wpAnyG_pure 18 (v := ?_) (fun _ => trivial) (by simp only [List.getElem?_toArray, List.getElem?_cons_succ, List.getElem?_cons_zero]; rfl) (by kernel_rfl) (fun _ _ _ _ _ h => h) ⟨(by rfl), (by intro c h; cases h), ?_⟩ hHeld ?_
                  rotate_left
                  focus (intro wS hSw; (try replace hSw := HSF.out wS hSw); (try dsimp only at hSw); go_simp; (try with_reducible rfl))
                  (try simp only [Act.put, List.setIfInBounds_toArray, List.set_cons_zero, List.set_cons_succ])
                  refine wpAnyG_skip 19 (fun _ => trivial) (by simp only [List.getElem?_toArray, List.getElem?_cons_succ, List.getElem?_cons_zero]; rfl) (by kernel_rfl) (fun _ _ _ _ _ h => h) (by rfl) hHeld ?_
                  (try simp only [Act.put, List.setIfInBounds_toArray, List.set_cons_zero, List.set_cons_succ])
                  refine wpAnyG_skip 20 (fun _ => trivial) (by simp only [List.getElem?_toArray, List.getElem?_cons_succ, List.getElem?_cons_zero]; rfl) (by kernel_rfl) (fun _ _ _ _ _ h => h) (by rfl) hHeld ?_
                  (try simp only [Act.put, List.setIfInBounds_toArray, List.set_cons_zero, List.set_cons_succ])
                  refine wpAnyG_skip 21 (fun _ => trivial) (by simp only [List.getElem?_toArray, List.getElem?_cons_succ, List.getElem?_cons_zero]; rfl) (by kernel_rfl) (fun _ _ _ _ _ h => h) (by rfl) hHeld ?_
                  (try simp only [Act.put, List.setIfInBounds_toArray, List.set_cons_zero, List.set_cons_succ])
                  refine wpAnyG_skip 22 (fun _ => trivial) (by simp only [List.getElem?_toArray, List.getElem?_cons_succ, List.getElem?_cons_zero]; rfl) (by kernel_rfl) (fun _ _ _ _ _ h => h) (by rfl) hHeld ?_
                  (try simp only [Act.put, List.setIfInBounds_toArray, List.set_cons_zero, List.set_cons_succ])
                  refine wpAnyG_skip 23 (fun _ => trivial) (by simp only [List.getElem?_toArray, List.getElem?_cons_succ, List.getElem?_cons_zero]; rfl) (by kernel_rfl) (fun _ _ _ _ _ h => h) (by rfl) hHeld ?_
                  (try simp only [Act.put, List.setIfInBounds_toArray, List.set_cons_zero, List.set_cons_succ])
                  refine wpAnyG_skip 24 (fun _ => trivial) (by simp only [List.getElem?_toArray, List.getElem?_cons_succ, List.getElem?_cons_zero]; rfl) (by kernel_rfl) (fun _ _ _ _ _ h => h) (by rfl) hHeld ?_
                  (try simp only [Act.put, List.setIfInBounds_toArray, List.set_cons_zero, List.set_cons_succ])
                  refine wpAnyG_skip 25 (fun _ => trivial) (by simp only [List.getElem?_toArray, List.getElem?_cons_succ, List.getElem?_cons_zero]; rfl) (by kernel_rfl) (fun _ _ _ _ _ h => h) (by rfl) hHeld ?_
                  (try simp only [Act.put, List.setIfInBounds_toArray, List.set_cons_zero, List.set_cons_succ])
                  refine wpAnyG_pure 26 (v := ?_) (fun _ => trivial) (by simp only [List.getElem?_toArray, List.getElem?_cons_succ, List.getElem?_cons_zero]; rfl) (by kernel_rfl) (fun _ _ _ _ _ h => h) ⟨(by rfl), (by intro c h; cases h), ?_⟩ hHeld ?_
                  rotate_left
                  focus (intro wS hSw; (try replace hSw := HSF.out wS hSw); (try dsimp only at hSw); go_simp; (try with_reducible rfl))
                  (try simp only [Act.put, List.setIfInBounds_toArray, List.set_cons_zero, List.set_cons_succ])
                  refine wpAnyG_pure 27 (v := ?_) (fun _ => trivial) (by simp only [List.getElem?_toArray, List.getElem?_cons_succ, List.getElem?_cons_zero]; rfl) (by kernel_rfl) (fun _ _ _ _ _ h => h) ⟨(by rfl), (by intro c h; cases h), ?_⟩ hHeld ?_
                  rotate_left
                  focus (intro wS hSw; (try replace hSw := HSF.out wS hSw); (try dsimp only at hSw); go_simp; (try with_reducible rfl))
                  (try simp only [Act.put, List.setIfInBounds_toArray, List.set_cons_zero, List.set_cons_succ])
                  refine wpAnyS_done (by kernel_rfl) ?_
                  clear hHeld HSF
                  go_wp2_with fail
                  go_roundw
                  case rel => exact ⟨a + 1, by omega, by go_num, Bcr.out.trans (BD.out.mono Bcr.out.size)⟩
                  case measure => simp [intOf]; omega
                case neg =>
                  have hn1 : ((j : Int) == (a : Int)) = false := by simp; omega
                  have hn2 : decide ((j : Int) = (a : Int)) = false := by simp; omega
                  have hn3 : decide (j = a) = false := by simp; omega
                  have hn4 : (j == a) = false := by simp; omega
                  by_cases hjb : b = j
                  case pos =>
                    subst hjb
                    rw [if_pos rfl, hlb] at HSF
                    clear hla hlb hja hne
                    go_upto_region 14 with fail
                    refine wpIn_wide.1 (wpIn_region_S (n := 0) (fun wq => Below wr.heap.size wr wq) [] (by kernel_rfl) BD.out (fun hHeld => ?_))
                    generalize wr.drew = wd at *
                    refine wpAnyG_pure 0 (v := ?_) (fun _ => trivial) (by simp only [List.getElem?_toArray, List.getElem?_cons_succ, List.getElem?_cons_zero]; rfl) (by kernel_rfl) (fun _ _ _ _ _ h => h) ⟨(by rfl), (by intro c h; cases h), ?_⟩ hHeld ?_
                    rotate_left
                    focus (intro wS hSw; (try replace hSw := HSF.out wS hSw); (try dsimp only at hSw); go_simp; (try with_reducible rfl))
                    (try simp only [Act.put, List.setIfInBounds_toArray, List.set_cons_zero, List.set_cons_succ])
                    refine wpAnyG_take 1 (v := ?_) (fun _ => trivial) (by simp only [List.getElem?_toArray, List.getElem?_cons_succ, List.getElem?_cons_zero]; rfl) (by kernel_rfl) (fun _ _ _ _ _ h => h) ⟨(by rfl), (by intro c h; cases h), ?_⟩ hHeld ?_
                    rotate_left
                    focus (intro wS hSw; (try replace hSw := HSF.out wS hSw); (try dsimp only at hSw); go_simp; (try with_reducible rfl))
                    (try simp only [Act.put, List.setIfInBounds_toArray, List.set_cons_zero, List.set_cons_succ])
                    refine wpAnyG_pure 2 (v := ?_) (fun _ => trivial) (by simp only [List.getElem?_toArray, List.getElem?_cons_succ, List.getElem?_cons_zero]; rfl) (by kernel_rfl) (fun _ _ _ _ _ h => h) ⟨(by rfl), (by intro c h; cases h), ?_⟩ hHeld ?_
                    rotate_left
                    focus (intro wS hSw; (try replace hSw := HSF.out wS hSw); (try dsimp only at hSw); go_simp; (try with_reducible rfl))
                    (try simp only [Act.put, List.setIfInBounds_toArray, List.set_cons_zero, List.set_cons_succ])
                    refine wpAnyG_pure 3 (v := ?_) (fun _ => trivial) (by simp only [List.getElem?_toArray, List.getElem?_cons_succ, List.getElem?_cons_zero]; rfl) (by kernel_rfl) (fun _ _ _ _ _ h => h) ⟨(by rfl), (by intro c h; cases h), ?_⟩ hHeld ?_
                    rotate_left
                    focus (intro wS hSw; (try replace hSw := HSF.out wS hSw); (try dsimp only at hSw); go_simp; (try with_reducible rfl))
                    (try simp only [Act.put, List.setIfInBounds_toArray, List.set_cons_zero, List.set_cons_succ])
                    refine wpAnyG_take 4 (v := ?_) (fun _ => trivial) (by simp only [List.getElem?_toArray, List.getElem?_cons_succ, List.getElem?_cons_zero]; rfl) (by kernel_rfl) (fun _ _ _ _ _ h => h) ⟨(by rfl), (by intro c h; cases h), ?_⟩ hHeld ?_
                    rotate_left
                    focus (intro wS hSw; (try replace hSw := HSF.out wS hSw); (try dsimp only at hSw); go_simp; (try with_reducible rfl))
                    (try simp only [Act.put, List.setIfInBounds_toArray, List.set_cons_zero, List.set_cons_succ])
                    refine wpAnyG_pure 5 (v := ?_) (fun _ => trivial) (by simp only [List.getElem?_toArray, List.getElem?_cons_succ, List.getElem?_cons_zero]; rfl) (by kernel_rfl) (fun _ _ _ _ _ h => h) ⟨(by rfl), (by intro c h; cases h), ?_⟩ hHeld ?_
                    rotate_left
                    focus (intro wS hSw; (try replace hSw := HSF.out wS hSw); (try dsimp only at hSw); go_simp; (try with_reducible rfl))
                    (try simp only [Act.put, List.setIfInBounds_toArray, List.set_cons_zero, List.set_cons_succ])
                    refine wpAnyG_take 6 (v := ?_) (fun _ => trivial) (by simp only [List.getElem?_toArray, List.getElem?_cons_succ, List.getElem?_cons_zero]; rfl) (by kernel_rfl) (fun _ _ _ _ _ h => h) ⟨(by rfl), (by intro c h; cases h), ?_⟩ hHeld ?_
                    rotate_left
                    focus (intro wS hSw; (try replace hSw := HSF.out wS hSw); (try dsimp only at hSw); go_simp; (try with_reducible rfl))
                    (try simp only [Act.put, List.setIfInBounds_toArray, List.set_cons_zero, List.set_cons_succ])
                    refine wpAnyG_pure 7 (v := ?_) (fun _ => trivial) (by simp only [List.getElem?_toArray, List.getElem?_cons_succ, List.getElem?_cons_zero]; rfl) (by kernel_rfl) (fun _ _ _ _ _ h => h) ⟨(by rfl), (by intro c h; cases h), ?_⟩ hHeld ?_
                    rotate_left
                    focus (intro wS hSw; (try replace hSw := HSF.out wS hSw); (try dsimp only at hSw); go_simp; (try with_reducible rfl))
                    (try simp only [Act.put, List.setIfInBounds_toArray, List.set_cons_zero, List.set_cons_succ])
                    refine wpAnyG_pure 8 (v := ?_) (fun _ => trivial) (by simp only [List.getElem?_toArray, List.getElem?_cons_succ, List.getElem?_cons_zero]; rfl) (by kernel_rfl) (fun _ _ _ _ _ h => h) ⟨(by rfl), (by intro c h; cases h), ?_⟩ hHeld ?_
                    rotate_left
                    focus (intro wS hSw; (try replace hSw := HSF.out wS hSw); (try dsimp only at hSw); go_simp; (try with_reducible rfl))
                    (try simp only [Act.put, List.setIfInBounds_toArray, List.set_cons_zero, List.set_cons_succ])
                    refine wpAnyG_take 9 (v := ?_) (fun _ => trivial) (by simp only [List.getElem?_toArray, List.getElem?_cons_succ, List.getElem?_cons_zero]; rfl) (by kernel_rfl) (fun _ _ _ _ _ h => h) ⟨(by rfl), (by intro c h; cases h), ?_⟩ hHeld ?_
                    rotate_left
                    focus (intro wS hSw; (try replace hSw := HSF.out wS hSw); (try dsimp only at hSw); go_simp; (try with_reducible rfl))
                    (try simp only [Act.put, List.setIfInBounds_toArray, List.set_cons_zero, List.set_cons_succ])
                    refine wpAnyG_pure 10 (v := ?_) (fun _ => trivial) (by simp only [List.getElem?_toArray, List.getElem?_cons_succ, List.getElem?_cons_zero]; rfl) (by kernel_rfl) (fun _ _ _ _ _ h => h) ⟨(by rfl), (by intro c h; cases h), ?_⟩ hHeld ?_
                    rotate_left
                    focus (intro wS hSw; (try replace hSw := HSF.out wS hSw); (try dsimp only at hSw); go_simp; (try with_reducible rfl))
                    (try simp only [Act.put, List.setIfInBounds_toArray, List.set_cons_zero, List.set_cons_succ])
                    refine wpAnyG_pure 11 (v := ?_) (fun _ => trivial) (by simp only [List.getElem?_toArray, List.getElem?_cons_succ, List.getElem?_cons_zero]; rfl) (by kernel_rfl) (fun _ _ _ _ _ h => h) ⟨(by rfl), (by intro c h; cases h), ?_⟩ hHeld ?_
                    rotate_left
                    focus (intro wS hSw; (try replace hSw := HSF.out wS hSw); (try dsimp only at hSw); go_simp; (try with_reducible rfl))
                    (try simp only [Act.put, List.setIfInBounds_toArray, List.set_cons_zero, List.set_cons_succ])
                    refine wpAnyG_pure 12 (v := ?_) (fun _ => trivial) (by simp only [List.getElem?_toArray, List.getElem?_cons_succ, List.getElem?_cons_zero]; rfl) (by kernel_rfl) (fun _ _ _ _ _ h => h) ⟨(by rfl), (by intro c h; cases h), ?_⟩ hHeld ?_
                    rotate_left
                    focus (intro wS hSw; (try replace hSw := HSF.out wS hSw); (try dsimp only at hSw); go_simp; (try with_reducible rfl))
                    (try simp only [Act.put, List.setIfInBounds_toArray, List.set_cons_zero, List.set_cons_succ])
                    refine wpAnyG_pure 13 (v := ?_) (fun _ => trivial) (by simp only [List.getElem?_toArray, List.getElem?_cons_succ, List.getElem?_cons_zero]; rfl) (by kernel_rfl) (fun _ _ _ _ _ h => h) ⟨(by rfl), (by intro c h; cases h), ?_⟩ hHeld ?_
                    rotate_left
                    focus (intro wS hSw; (try replace hSw := HSF.out wS hSw); (try dsimp only at hSw); go_simp; (try with_reducible rfl))
                    (try simp only [Act.put, List.setIfInBounds_toArray, List.set_cons_zero, List.set_cons_succ])
                    refine wpAnyG_pure 14 (v := ?_) (fun _ => trivial) (by simp only [List.getElem?_toArray, List.getElem?_cons_succ, List.getElem?_cons_zero]; rfl) (by kernel_rfl) (fun _ _ _ _ _ h => h) ⟨(by rfl), (by intro c h; cases h), ?_⟩ hHeld ?_
                    rotate_left
                    focus (intro wS hSw; (try replace hSw := HSF.out wS hSw); (try dsimp only at hSw); go_simp; (try with_reducible rfl))
                    (try simp only [Act.put, List.setIfInBounds_toArray, List.set_cons_zero, List.set_cons_succ])
                    refine wpAnyG_pure 15 (v := ?_) (fun _ => trivial) (by simp only [List.getElem?_toArray, List.getElem?_cons_succ, List.getElem?_cons_zero]; rfl) (by kernel_rfl) (fun _ _ _ _ _ h => h) ⟨(by rfl), (by intro c h; cases h), ?_⟩ hHeld ?_
                    rotate_left
                    focus (intro wS hSw; (try replace hSw := HSF.out wS hSw); (try dsimp only at hSw); go_simp; (try with_reducible rfl))
                    (try simp only [Act.put, List.setIfInBounds_toArray, List.set_cons_zero, List.set_cons_succ])
                    refine wpAnyG_take 16 (v := ?_) (fun _ => trivial) (by simp only [List.getElem?_toArray, List.getElem?_cons_succ, List.getElem?_cons_zero]; rfl) (by kernel_rfl) (fun _ _ _ _ _ h => h) ⟨(by rfl), (by intro c h; cases h), ?_⟩ hHeld ?_
                    rotate_left
                    focus (intro wS hSw; (try replace hSw := HSF.out wS hSw); (try dsimp only at hSw); go_simp; (try with_reducible rfl))
                    (try simp only [Act.put, List.setIfInBounds_toArray, List.set_cons_zero, List.set_cons_succ])
                    refine wpAnyG_pure 17 (v := ?_) (fun _ => trivial) (by simp only [List.getElem?_toArray, List.getElem?_cons_succ, List.getElem?_cons_zero]; rfl) (by kernel_rfl) (fun _ _ _ _ _ h => h) ⟨(by rfl), (by intro c h; cases h), ?_⟩ hHeld ?_
                    rotate_left
                    focus (intro wS hSw; (try replace hSw := HSF.out wS hSw); (try dsimp only at hSw); go_simp; (try with_reducible rfl))
                    (try simp only [Act.put, List.setIfInBounds_toArray, List.set_cons_zero, List.set_cons_succ])
                    refine wpAnyG_pure 18 (v := ?_) (fun _ => trivial) (by simp only [List.getElem?_toArray, List.getElem?_cons_succ, List.getElem?_cons_zero]; rfl) (by kernel_rfl) (fun _ _ _ _ _ h => h) ⟨(by rfl), (by intro c h; cases h), ?_⟩ hHeld ?_
                    rotate_left
                    focus (intro wS hSw; (try replace hSw := HSF.out wS hSw); (try dsimp only at hSw); go_simp; (try with_reducible rfl))
                    (try simp only [Act.put, List.setIfInBounds_toArray, List.set_cons_zero, List.set_cons_succ])
                    refine wpAnyG_pure 19 (v := ?_) (fun _ => trivial) (by simp only [List.getElem?_toArray, List.getElem?_cons_succ, List.getElem?_cons_zero]; rfl) (by kernel_rfl) (fun _ _ _ _ _ h => h) ⟨(by rfl), (by intro c h; cases h), ?_⟩ hHeld ?_
                    rotate_left
                    focus (intro wS hSw; (try replace hSw := HSF.out wS hSw); (try dsimp only at hSw); go_simp; (try with_reducible rfl))
                    (try simp only [Act.put, List.setIfInBounds_toArray, List.set_cons_zero, List.set_cons_succ])
                    refine wpAnyG_pure 20 (v := ?_) (fun _ => trivial) (by simp only [List.getElem?_toArray, List.getElem?_cons_succ, List.getElem?_cons_zero]; rfl) (by kernel_rfl) (fun _ _ _ _ _ h => h) ⟨(by rfl), (by intro c h; cases h), ?_⟩ hHeld ?_
                    rotate_left
                    focus (intro wS hSw; (try replace hSw := HSF.out wS hSw); (try dsimp only at hSw); go_simp; (try with_reducible rfl))
                    (try simp only [Act.put, List.setIfInBounds_toArray, List.set_cons_zero, List.set_cons_succ])
                    refine wpAnyG_pure 21 (v := ?_) (fun _ => trivial) (by simp only [List.getElem?_toArray, List.getElem?_cons_succ, List.getElem?_cons_zero]; rfl) (by kernel_rfl) (fun _ _ _ _ _ h => h) ⟨(by rfl), (by intro c h; cases h), ?_⟩ hHeld ?_
                    rotate_left
                    focus (intro wS hSw; (try replace hSw := HSF.out wS hSw); (try dsimp only at hSw); go_simp; (try with_reducible rfl))
                    (try simp only [Act.put, List.setIfInBounds_toArray, List.set_cons_zero, List.set_cons_succ])
                    refine wpAnyG_pure 22 (v := ?_) (fun _ => trivial) (by simp only [List.getElem?_toArray, List.getElem?_cons_succ, List.getElem?_cons_zero]; rfl) (by kernel_rfl) (fun _ _ _ _ _ h => h) ⟨(by rfl), (by intro c h; cases h), ?_⟩ hHeld ?_
                    rotate_left
                    focus (intro wS hSw; (try replace hSw := HSF.out wS hSw); (try dsimp only at hSw); go_simp; (try with_reducible rfl))
                    (try simp only [Act.put, List.setIfInBounds_toArray, List.set_cons_zero, List.set_cons_succ])
                    refine wpAnyG_pure 23 (v := ?_) (fun _ => trivial) (by simp only [List.getElem?_toArray, List.getElem?_cons_succ, List.getElem?_cons_zero]; rfl) (by kernel_rfl) (fun _ _ _ _ _ h => h) ⟨(by rfl), (by intro c h; cases h), ?_⟩ hHeld ?_
                    rotate_left
                    focus (intro wS hSw; (try replace hSw := HSF.out wS hSw); (try dsimp only at hSw); go_simp; (try with_reducible rfl))
                    (try simp only [Act.put, List.setIfInBounds_toArray, List.set_cons_zero, List.set_cons_succ])
                    refine wpAnyG_take 24 (v := ?_) (fun _ => trivial) (by simp only [List.getElem?_toArray, List.getElem?_cons_succ, List.getElem?_cons_zero]; rfl) (by kernel_rfl) (fun _ _ _ _ _ h => h) ⟨(by rfl), (by intro c h; cases h), ?_⟩ hHeld ?_
                    rotate_left
                    focus (intro wS hSw; (try replace hSw := HSF.out wS hSw); (try dsimp only at hSw); go_simp; (try with_reducible rfl))
                    (try simp only [Act.put, List.setIfInBounds_toArray, List.set_cons_zero, List.set_cons_succ])
                    refine wpAnyG_pure 25 (v := ?_) (fun _ => trivial) (by simp only [List.getElem?_toArray, List.getElem?_cons_succ, List.getElem?_cons_zero]; rfl) (by kernel_rfl) (fun _ _ _ _ _ h => h) ⟨(by rfl), (by intro c h; cases h), ?_⟩ hHeld ?_
                    rotate_left
                    focus (intro wS hSw; (try replace hSw := HSF.out wS hSw); (try dsimp only at hSw); go_simp; (try with_reducible rfl))
                    (try simp only [Act.put, List.setIfInBounds_toArray, List.set_cons_zero, List.set_cons_succ])
                    refine wpAnyG_pure 26 (v := ?_) (fun _ => trivial) (by simp only [List.getElem?_toArray, List.getElem?_cons_succ, List.getElem?_cons_zero]; rfl) (by kernel_rfl) (fun _ _ _ _ _ h => h) ⟨(by rfl), (by intro c h; cases h), ?_⟩ hHeld ?_
                    rotate_left
                    focus (intro wS hSw; (try replace hSw := HSF.out wS hSw); (try dsimp only at hSw); go_simp; (try with_reducible rfl))
                    (try simp only [Act.put, List.setIfInBounds_toArray, List.set_cons_zero, List.set_cons_succ])
                    refine wpAnyG_pure 27 (v := ?_) (fun _ => trivial) (by simp only [List.getElem?_toArray, List.getElem?_cons_succ, List.getElem?_cons_zero]; rfl) (by kernel_rfl) (fun _ _ _ _ _ h => h) ⟨(by rfl), (by intro c h; cases h), ?_⟩ hHeld ?_
                    rotate_left
                    focus (intro wS hSw; (try replace hSw := HSF.out wS hSw); (try dsimp only at hSw); go_simp; (try with_reducible rfl))
                    (try simp only [Act.put, List.setIfInBounds_toArray, List.set_cons_zero, List.set_cons_succ])
                    refine wpAnyS_done (by kernel_rfl) ?_
                    clear hHeld HSF
                    go_wp2_with fail
                    go_roundw
                    case rel => exact ⟨b + 1, by omega, by go_num, Bcr.out.trans (BD.out.mono Bcr.out.size)⟩
                    case measure => simp [intOf]; omega
                  case neg =>
                    have ho1 : ((j : Int) == (b : Int)) = false := by simp; omega
                    have ho2 : decide ((j : Int) = (b : Int)) = false := by simp; omega
                    have ho3 : decide (j = b) = false := by simp; omega
                    have ho4 : (j == b) = false := by simp; omega
                    rw [if_neg hjb, if_neg hja] at HSF
                    clear hla hlb hja hjb hne
                    generalize l[j] = lj at *
                    cases lj with
                    | true =>
                      go_upto_region 14 with fail
                      refine wpIn_wide.1 (wpIn_region_S (n := 0) (fun wq => Below wr.heap.size wr wq) [] (by kernel_rfl) BD.out (fun hHeld => ?_))
                      generalize wr.drew = wd at *
                      refine wpAnyG_pure 0 (v := ?_) (fun _ => trivial) (by simp only [List.getElem?_toArray, List.getElem?_cons_succ, List.getElem?_cons_zero]; rfl) (by kernel_rfl) (fun _ _ _ _ _ h => h) ⟨(by rfl), (by intro c h; cases h), ?_⟩ hHeld ?_
                      rotate_left
                      focus (intro wS hSw; (try replace hSw := HSF.out wS hSw); (try dsimp only at hSw); go_simp; (try with_reducible rfl))
                      (try simp only [Act.put, List.setIfInBounds_toArray, List.set_cons_zero, List.set_cons_succ])
                      refine wpAnyG_take 1 (v := ?_) (fun _ => trivial) (by simp only [List.getElem?_toArray, List.getElem?_cons_succ, List.getElem?_cons_zero]; rfl) (by kernel_rfl) (fun _ _ _ _ _ h => h) ⟨(by rfl), (by intro c h; cases h), ?_⟩ hHeld ?_
                      rotate_left
                      focus (intro wS hSw; (try replace hSw := HSF.out wS hSw); (try dsimp only at hSw); go_simp; (try with_reducible rfl))
                      (try simp only [Act.put, List.setIfInBounds_toArray, List.set_cons_zero, List.set_cons_succ])
                      refine wpAnyG_pure 2 (v := ?_) (fun _ => trivial) (by simp only [List.getElem?_toArray, List.getElem?_cons_succ, List.getElem?_cons_zero]; rfl) (by kernel_rfl) (fun _ _ _ _ _ h => h) ⟨(by rfl), (by intro c h; cases h), ?_⟩ hHeld ?_
                      rotate_left
                      focus (intro wS hSw; (try replace hSw := HSF.out wS hSw); (try dsimp only at hSw); go_simp; (try with_reducible rfl))
                      (try simp only [Act.put, List.setIfInBounds_toArray, List.set_cons_zero, List.set_cons_succ])
                      refine wpAnyG_pure 3 (v := ?_) (fun _ => trivial) (by simp only [List.getElem?_toArray, List.getElem?_cons_succ, List.getElem?_cons_zero]; rfl) (by kernel_rfl) (fun _ _ _ _ _ h => h) ⟨(by rfl), (by intro c h; cases h), ?_⟩ hHeld ?_
                      rotate_left
                      focus (intro wS hSw; (try replace hSw := HSF.out wS hSw); (try dsimp only at hSw); go_simp; (try with_reducible rfl))
                      (try simp only [Act.put, List.setIfInBounds_toArray, List.set_cons_zero, List.set_cons_succ])
                      refine wpAnyG_take 4 (v := ?_) (fun _ => trivial) (by simp only [List.getElem?_toArray, List.getElem?_cons_succ, List.getElem?_cons_zero]; rfl) (by kernel_rfl) (fun _ _ _ _ _ h => h) ⟨(by rfl), (by intro c h; cases h), ?_⟩ hHeld ?_
                      rotate_left
                      focus (intro wS hSw; (try replace hSw := HSF.out wS hSw); (try dsimp only at hSw); go_simp; (try with_reducible rfl))
                      (try simp only [Act.put, List.setIfInBounds_toArray, List.set_cons_zero, List.set_cons_succ])
                      refine wpAnyG_pure 5 (v := ?_) (fun _ => trivial) (by simp only [List.getElem?_toArray, List.getElem?_cons_succ, List.getElem?_cons_zero]; rfl) (by kernel_rfl) (fun _ _ _ _ _ h => h) ⟨(by rfl), (by intro c h; cases h), ?_⟩ hHeld ?_
                      rotate_left
                      focus (intro wS hSw; (try replace hSw := HSF.out wS hSw); (try dsimp only at hSw); go_simp; (try with_reducible rfl))
                      (try simp only [Act.put, List.setIfInBounds_toArray, List.set_cons_zero, List.set_cons_succ])
                      refine wpAnyG_take 6 (v := ?_) (fun _ => trivial) (by simp only [List.getElem?_toArray, List.getElem?_cons_succ, List.getElem?_cons_zero]; rfl) (by kernel_rfl) (fun _ _ _ _ _ h => h) ⟨(by rfl), (by intro c h; cases h), ?_⟩ hHeld ?_
                      rotate_left
                      focus (intro wS hSw; (try replace hSw := HSF.out wS hSw); (try dsimp only at hSw); go_simp; (try with_reducible rfl))
                      (try simp only [Act.put, List.setIfInBounds_toArray, List.set_cons_zero, List.set_cons_succ])
                      refine wpAnyG_pure 7 (v := ?_) (fun _ => trivial) (by simp only [List.getElem?_toArray, List.getElem?_cons_succ, List.getElem?_cons_zero]; rfl) (by kernel_rfl) (fun _ _ _ _ _ h => h) ⟨(by rfl), (by intro c h; cases h), ?_⟩ hHeld ?_
                      rotate_left
                      focus (intro wS hSw; (try replace hSw := HSF.out wS hSw); (try dsimp only at hSw); go_simp; (try with_reducible rfl))
                      (try simp only [Act.put, List.setIfInBounds_toArray, List.set_cons_zero, List.set_cons_succ])
                      refine wpAnyG_pure 8 (v := ?_) (fun _ => trivial) (by simp only [List.getElem?_toArray, List.getElem?_cons_succ, List.getElem?_cons_zero]; rfl) (by kernel_rfl) (fun _ _ _ _ _ h => h) ⟨(by rfl), (by intro c h; cases h), ?_⟩ hHeld ?_
                      rotate_left
                      focus (intro wS hSw; (try replace hSw := HSF.out wS hSw); (try dsimp only at hSw); go_simp; (try with_reducible rfl))
                      (try simp only [Act.put, List.setIfInBounds_toArray, List.set_cons_zero, List.set_cons_succ])
                      refine wpAnyG_take 9 (v := ?_) (fun _ => trivial) (by simp only [List.getElem?_toArray, List.getElem?_cons_succ, List.getElem?_cons_zero]; rfl) (by kernel_rfl) (fun _ _ _ _ _ h => h) ⟨(by rfl), (by intro c h; cases h), ?_⟩ hHeld ?_
                      rotate_left
                      focus (intro wS hSw; (try replace hSw := HSF.out wS hSw); (try dsimp only at hSw); go_simp; (try with_reducible rfl))
                      (try simp only [Act.put, List.setIfInBounds_toArray, List.set_cons_zero, List.set_cons_succ])
                      refine wpAnyG_pure 10 (v := ?_) (fun _ => trivial) (by simp only [List.getElem?_toArray, List.getElem?_cons_succ, List.getElem?_cons_zero]; rfl) (by kernel_rfl) (fun _ _ _ _ _ h => h) ⟨(by rfl), (by intro c h; cases h), ?_⟩ hHeld ?_
                      rotate_left
                      focus (intro wS hSw; (try replace hSw := HSF.out wS hSw); (try dsimp only at hSw); go_simp; (try with_reducible rfl))
                      (try simp only [Act.put, List.setIfInBounds_toArray, List.set_cons_zero, List.set_cons_succ])
                      refine wpAnyG_pure 11 (v := ?_) (fun _ => trivial) (by simp only [List.getElem?_toArray, List.getElem?_cons_succ, List.getElem?_cons_zero]; rfl) (by kernel_rfl) (fun _ _ _ _ _ h => h) ⟨(by rfl), (by intro c h; cases h), ?_⟩ hHeld ?_
                      rotate_left
                      focus (intro wS hSw; (try replace hSw := HSF.out wS hSw); (try dsimp only at hSw); go_simp; (try with_reducible rfl))
                      (try simp only [Act.put, List.setIfInBounds_toArray, List.set_cons_zero, List.set_cons_succ])
                      refine wpAnyG_pure 12 (v := ?_) (fun _ => trivial) (by simp only [List.getElem?_toArray, List.getElem?_cons_succ, List.getElem?_cons_zero]; rfl) (by kernel_rfl) (fun _ _ _ _ _ h => h) ⟨(by rfl), (by intro c h; cases h), ?_⟩ hHeld ?_
                      rotate_left
                      focus (intro wS hSw; (try replace hSw := HSF.out wS hSw); (try dsimp only at hSw); go_simp; (try with_reducible rfl))
                      (try simp only [Act.put, List.setIfInBounds_toArray, List.set_cons_zero, List.set_cons_succ])
                      refine wpAnyG_pure 13 (v := ?_) (fun _ => trivial) (by simp only [List.getElem?_toArray, List.getElem?_cons_succ, List.getElem?_cons_zero]; rfl) (by kernel_rfl) (fun _ _ _ _ _ h => h) ⟨(by rfl), (by intro c h; cases h), ?_⟩ hHeld ?_
                      rotate_left
                      focus (intro wS hSw; (try replace hSw := HSF.out wS hSw); (try dsimp only at hSw); go_simp; (try with_reducible rfl))
                      (try simp only [Act.put, List.setIfInBounds_toArray, List.set_cons_zero, List.set_cons_succ])
                      refine wpAnyG_pure 14 (v := ?_) (fun _ => trivial) (by simp only [List.getElem?_toArray, List.getElem?_cons_succ, List.getElem?_cons_zero]; rfl) (by kernel_rfl) (fun _ _ _ _ _ h => h) ⟨(by rfl), (by intro c h; cases h), ?_⟩ hHeld ?_
                      rotate_left
                      focus (intro wS hSw; (try replace hSw := HSF.out wS hSw); (try dsimp only at hSw); go_simp; (try with_reducible rfl))
                      (try simp only [Act.put, List.setIfInBounds_toArray, List.set_cons_zero, List.set_cons_succ])
                      refine wpAnyG_pure 15 (v := ?_) (fun _ => trivial) (by simp only [List.getElem?_toArray, List.getElem?_cons_succ, List.getElem?_cons_zero]; rfl) (by kernel_rfl) (fun _ _ _ _ _ h => h) ⟨(by rfl), (by intro c h; cases h), ?_⟩ hHeld ?_
                      rotate_left
                      focus (intro wS hSw; (try replace hSw := HSF.out wS hSw); (try dsimp only at hSw); go_simp; (try with_reducible rfl))
                      (try simp only [Act.put, List.setIfInBounds_toArray, List.set_cons_zero, List.set_cons_succ])
                      refine wpAnyG_take 16 (v := ?_) (fun _ => trivial) (by simp only [List.getElem?_toArray, List.getElem?_cons_succ, List.getElem?_cons_zero]; rfl) (by kernel_rfl) (fun _ _ _ _ _ h => h) ⟨(by rfl), (by intro c h; cases h), ?_⟩ hHeld ?_
                      rotate_left
                      focus (intro wS hSw; (try replace hSw := HSF.out wS hSw); (try dsimp only at hSw); go_simp; (try with_reducible rfl))
                      (try simp only [Act.put, List.setIfInBounds_toArray, List.set_cons_zero, List.set_cons_succ])
                      refine wpAnyG_pure 17 (v := ?_) (fun _ => trivial) (by simp only [List.getElem?_toArray, List.getElem?_cons_succ, List.getElem?_cons_zero]; rfl) (by kernel_rfl) (fun _ _ _ _ _ h => h) ⟨(by rfl), (by intro c h; cases h), ?_⟩ hHeld ?_
                      rotate_left
                      focus (intro wS hSw; (try replace hSw := HSF.out wS hSw); (try dsimp only at hSw); go_simp; (try with_reducible rfl))
                      (try simp only [Act.put, List.setIfInBounds_toArray, List.set_cons_zero, List.set_cons_succ])
                      refine wpAnyG_pure 18 (v := ?_) (fun _ => trivial) (by simp only [List.getElem?_toArray, List.getElem?_cons_succ, List.getElem?_cons_zero]; rfl) (by kernel_rfl) (fun _ _ _ _ _ h => h) ⟨(by rfl), (by intro c h; cases h), ?_⟩ hHeld ?_
                      rotate_left
                      focus (intro wS hSw; (try replace hSw := HSF.out wS hSw); (try dsimp only at hSw); go_simp; (try with_reducible rfl))
                      (try simp only [Act.put, List.setIfInBounds_toArray, List.set_cons_zero, List.set_cons_succ])
                      refine wpAnyG_pure 19 (v := ?_) (fun _ => trivial) (by simp only [List.getElem?_toArray, List.getElem?_cons_succ, List.getElem?_cons_zero]; rfl) (by kernel_rfl) (fun _ _ _ _ _ h => h) ⟨(by rfl), (by intro c h; cases h), ?_⟩ hHeld ?_
                      rotate_left
                      focus (intro wS hSw; (try replace hSw := HSF.out wS hSw); (try dsimp only at hSw); go_simp; (try with_reducible rfl))
                      (try simp only [Act.put, List.setIfInBounds_toArray, List.set_cons_zero, List.set_cons_succ])
                      refine wpAnyG_pure 20 (v := ?_) (fun _ => trivial) (by simp only [List.getElem?_toArray, List.getElem?_cons_succ, List.getElem?_cons_zero]; rfl) (by kernel_rfl) (fun _ _ _ _ _ h => h) ⟨(by rfl), (by intro c h; cases h), ?_⟩ hHeld ?_
                      rotate_left
                      focus (intro wS hSw; (try replace hSw := HSF.out wS hSw); (try dsimp only at hSw); go_simp; (try with_reducible rfl))
                      (try simp only [Act.put, List.setIfInBounds_toArray, List.set_cons_zero, List.set_cons_succ])
                      refine wpAnyG_pure 21 (v := ?_) (fun _ => trivial) (by simp only [List.getElem?_toArray, List.getElem?_cons_succ, List.getElem?_cons_zero]; rfl) (by kernel_rfl) (fun _ _ _ _ _ h => h) ⟨(by rfl), (by intro c h; cases h), ?_⟩ hHeld ?_
                      rotate_left
                      focus (intro wS hSw; (try replace hSw := HSF.out wS hSw); (try dsimp only at hSw); go_simp; (try with_reducible rfl))
                      (try simp only [Act.put, List.setIfInBounds_toArray, List.set_cons_zero, List.set_cons_succ])
                      refine wpAnyG_pure 22 (v := ?_) (fun _ => trivial) (by simp only [List.getElem?_toArray, List.getElem?_cons_succ, List.getElem?_cons_zero]; rfl) (by kernel_rfl) (fun _ _ _ _ _ h => h) ⟨(by rfl), (by intro c h; cases h), ?_⟩ hHeld ?_
                      rotate_left
                      focus (intro wS hSw; (try replace hSw := HSF.out wS hSw); (try dsimp only at hSw); go_simp; (try with_reducible rfl))
                      (try simp only [Act.put, List.setIfInBounds_toArray, List.set_cons_zero, List.set_cons_succ])
                      refine wpAnyG_pure 23 (v := ?_) (fun _ => trivial) (by simp only [List.getElem?_toArray, List.getElem?_cons_succ, List.getElem?_cons_zero]; rfl) (by kernel_rfl) (fun _ _ _ _ _ h => h) ⟨(by rfl), (by intro c h; cases h), ?_⟩ hHeld ?_
                      rotate_left
                      focus (intro wS hSw; (try replace hSw := HSF.out wS hSw); (try dsimp only at hSw); go_simp; (try with_reducible rfl))
                      (try simp only [Act.put, List.setIfInBounds_toArray, List.set_cons_zero, List.set_cons_succ])
                      refine wpAnyG_take 24 (v := ?_) (fun _ => trivial) (by simp only [List.getElem?_toArray, List.getElem?_cons_succ, List.getElem?_cons_zero]; rfl) (by kernel_rfl) (fun _ _ _ _ _ h => h) ⟨(by rfl), (by intro c h; cases h), ?_⟩ hHeld ?_
                      rotate_left
                      focus (intro wS hSw; (try replace hSw := HSF.out wS hSw); (try dsimp only at hSw); go_simp; (try with_reducible rfl))
                      (try simp only [Act.put, List.setIfInBounds_toArray, List.set_cons_zero, List.set_cons_succ])
                      refine wpAnyG_pure 25 (v := ?_) (fun _ => trivial) (by simp only [List.getElem?_toArray, List.getElem?_cons_succ, List.getElem?_cons_zero]; rfl) (by kernel_rfl) (fun _ _ _ _ _ h => h) ⟨(by rfl), (by intro c h; cases h), ?_⟩ hHeld ?_
                      rotate_left
                      focus (intro wS hSw; (try replace hSw := HSF.out wS hSw); (try dsimp only at hSw); go_simp; (try with_reducible rfl))
                      (try simp only [Act.put, List.setIfInBounds_toArray, List.set_cons_zero, List.set_cons_succ])
                      refine wpAnyG_pure 26 (v := ?_) (fun _ => trivial) (by simp only [List.getElem?_toArray, List.getElem?_cons_succ, List.getElem?_cons_zero]; rfl) (by kernel_rfl) (fun _ _ _ _ _ h => h) ⟨(by rfl), (by intro c h; cases h), ?_⟩ hHeld ?_
                      rotate_left
                      focus (intro wS hSw; (try replace hSw := HSF.out wS hSw); (try dsimp only at hSw); go_simp; (try with_reducible rfl))
                      (try simp only [Act.put, List.setIfInBounds_toArray, List.set_cons_zero, List.set_cons_succ])
                      refine wpAnyG_pure 27 (v := ?_) (fun _ => trivial) (by simp only [List.getElem?_toArray, List.getElem?_cons_succ, List.getElem?_cons_zero]; rfl) (by kernel_rfl) (fun _ _ _ _ _ h => h) ⟨(by rfl), (by intro c h; cases h), ?_⟩ hHeld ?_
                      rotate_left
                      focus (intro wS hSw; (try replace hSw := HSF.out wS hSw); (try dsimp only at hSw); go_simp; (try with_reducible rfl))
                      (try simp only [Act.put, List.setIfInBounds_toArray, List.set_cons_zero, List.set_cons_succ])
                      refine wpAnyS_done (by kernel_rfl) ?_
                      clear hHeld HSF
                      go_wp2_with fail
                      go_roundw
                      case rel => exact ⟨j + 1, by omega, by go_num, Bcr.out.trans (BD.out.mono Bcr.out.size)⟩
                      case measure => simp [intOf]; omega
                    | false =>
                      go_upto_region 14 with fail
                      refine wpIn_wide.1 (wpIn_region_S (n := 0) (fun wq => Below wr.heap.size wr wq) [] (by kernel_rfl) BD.out (fun hHeld => ?_))
                      generalize wr.drew = wd at *
                      refine wpAnyG_pure 0 (v := ?_) (fun _ => trivial) (by simp only [List.getElem?_toArray, List.getElem?_cons_succ, List.getElem?_cons_zero]; rfl) (by kernel_rfl) (fun _ _ _ _ _ h => h) ⟨(by rfl), (by intro c h; cases h), ?_⟩ hHeld ?_
                      rotate_left
                      focus (intro wS hSw; (try replace hSw := HSF.out wS hSw); (try dsimp only at hSw); go_simp; (try with_reducible rfl))
                      (try simp only [Act.put, List.setIfInBounds_toArray, List.set_cons_zero, List.set_cons_succ])
                      refine wpAnyG_take 1 (v := ?_) (fun _ => trivial) (by simp only [List.getElem?_toArray, List.getElem?_cons_succ, List.getElem?_cons_zero]; rfl) (by kernel_rfl) (fun _ _ _ _ _ h => h) ⟨(by rfl), (by intro c h; cases h), ?_⟩ hHeld ?_
                      rotate_left
                      focus (intro wS hSw; (try replace hSw := HSF.out wS hSw); (try dsimp only at hSw); go_simp; (try with_reducible rfl))
                      (try simp only [Act.put, List.setIfInBounds_toArray, List.set_cons_zero, List.set_cons_succ])
                      refine wpAnyG_pure 2 (v := ?_) (fun _ => trivial) (by simp only [List.getElem?_toArray, List.getElem?_cons_succ, List.getElem?_cons_zero]; rfl) (by kernel_rfl) (fun _ _ _ _ _ h => h) ⟨(by rfl), (by intro c h; cases h), ?_⟩ hHeld ?_
                      rotate_left
                      focus (intro wS hSw; (try replace hSw := HSF.out wS hSw); (try dsimp only at hSw); go_simp; (try with_reducible rfl))
                      (try simp only [Act.put, List.setIfInBounds_toArray, List.set_cons_zero, List.set_cons_succ])
                      refine wpAnyG_pure 3 (v := ?_) (fun _ => trivial) (by simp only [List.getElem?_toArray, List.getElem?_cons_succ, List.getElem?_cons_zero]; rfl) (by kernel_rfl) (fun _ _ _ _ _ h => h) ⟨(by rfl), (by intro c h; cases h), ?_⟩ hHeld ?_
                      rotate_left
                      focus (intro wS hSw; (try replace hSw := HSF.out wS hSw); (try dsimp only at hSw); go_simp; (try with_reducible rfl))
                      (try simp only [Act.put, List.setIfInBounds_toArray, List.set_cons_zero, List.set_cons_succ])
                      refine wpAnyG_take 4 (v := ?_) (fun _ => trivial) (by simp only [List.getElem?_toArray, List.getElem?_cons_succ, List.getElem?_cons_zero]; rfl) (by kernel_rfl) (fun _ _ _ _ _ h => h) ⟨(by rfl), (by intro c h; cases h), ?_⟩ hHeld ?_
                      rotate_left
                      focus (intro wS hSw; (try replace hSw := HSF.out wS hSw); (try dsimp only at hSw); go_simp; (try with_reducible rfl))
                      (try simp only [Act.put, List.setIfInBounds_toArray, List.set_cons_zero, List.set_cons_succ])
                      refine wpAnyG_pure 5 (v := ?_) (fun _ => trivial) (by simp only [List.getElem?_toArray, List.getElem?_cons_succ, List.getElem?_cons_zero]; rfl) (by kernel_rfl) (fun _ _ _ _ _ h => h) ⟨(by rfl), (by intro c h; cases h), ?_⟩ hHeld ?_
                      rotate_left
                      focus (intro wS hSw; (try replace hSw := HSF.out wS hSw); (try dsimp only at hSw); go_simp; (try with_reducible rfl))
                      (try simp only [Act.put, List.setIfInBounds_toArray, List.set_cons_zero, List.set_cons_succ])
                      refine wpAnyG_take 6 (v := ?_) (fun _ => trivial) (by simp only [List.getElem?_toArray, List.getElem?_cons_succ, List.getElem?_cons_zero]; rfl) (by kernel_rfl) (fun _ _ _ _ _ h => h) ⟨(by rfl), (by intro c h; cases h), ?_⟩ hHeld ?_
                      rotate_left
                      focus (intro wS hSw; (try replace hSw := HSF.out wS hSw); (try dsimp only at hSw); go_simp; (try with_reducible rfl))
                      (try simp only [Act.put, List.setIfInBounds_toArray, List.set_cons_zero, List.set_cons_succ])
                      refine wpAnyG_pure 7 (v := ?_) (fun _ => trivial) (by simp only [List.getElem?_toArray, List.getElem?_cons_succ, List.getElem?_cons_zero]; rfl) (by kernel_rfl) (fun _ _ _ _ _ h => h) ⟨(by rfl), (by intro c h; cases h), ?_⟩ hHeld ?_
                      rotate_left
                      focus (intro wS hSw; (try replace hSw := HSF.out wS hSw); (try dsimp only at hSw); go_simp; (try with_reducible rfl))
                      (try simp only [Act.put, List.setIfInBounds_toArray, List.set_cons_zero, List.set_cons_succ])
                      refine wpAnyG_pure 8 (v := ?_) (fun _ => trivial) (by simp only [List.getElem?_toArray, List.getElem?_cons_succ, List.getElem?_cons_zero]; rfl) (by kernel_rfl) (fun _ _ _ _ _ h => h) ⟨(by rfl), (by intro c h; cases h), ?_⟩ hHeld ?_
                      rotate_left
                      focus (intro wS hSw; (try replace hSw := HSF.out wS hSw); (try dsimp only at hSw); go_simp; (try with_reducible rfl))
                      (try simp only [Act.put, List.setIfInBounds_toArray, List.set_cons_zero, List.set_cons_succ])
                      refine wpAnyG_take 9 (v := ?_) (fun _ => trivial) (by simp only [List.getElem?_toArray, List.getElem?_cons_succ, List.getElem?_cons_zero]; rfl) (by kernel_rfl) (fun _ _ _ _ _ h => h) ⟨(by rfl), (by intro c h; cases h), ?_⟩ hHeld ?_
                      rotate_left
                      focus (intro wS hSw; (try replace hSw := HSF.out wS hSw); (try dsimp only at hSw); go_simp; (try with_reducible rfl))
                      (try simp only [Act.put, List.setIfInBounds_toArray, List.set_cons_zero, List.set_cons_succ])
                      refine wpAnyG_pure 10 (v := ?_) (fun _ => trivial) (by simp only [List.getElem?_toArray, List.getElem?_cons_succ, List.getElem?_cons_zero]; rfl) (by kernel_rfl) (fun _ _ _ _ _ h => h) ⟨(by rfl), (by intro c h; cases h), ?_⟩ hHeld ?_
                      rotate_left
                      focus (intro wS hSw; (try replace hSw := HSF.out wS hSw); (try dsimp only at hSw); go_simp; (try with_reducible rfl))
                      (try simp only [Act.put, List.setIfInBounds_toArray, List.set_cons_zero, List.set_cons_succ])
                      refine wpAnyG_pure 11 (v := ?_) (fun _ => trivial) (by simp only [List.getElem?_toArray, List.getElem?_cons_succ, List.getElem?_cons_zero]; rfl) (by kernel_rfl) (fun _ _ _ _ _ h => h) ⟨(by rfl), (by intro c h; cases h), ?_⟩ hHeld ?_
                      rotate_left
                      focus (intro wS hSw; (try replace hSw := HSF.out wS hSw); (try dsimp only at hSw); go_simp; (try with_reducible rfl))
                      (try simp only [Act.put, List.setIfInBounds_toArray, List.set_cons_zero, List.set_cons_succ])
                      refine wpAnyG_pure 12 (v := ?_) (fun _ => trivial) (by simp only [List.getElem?_toArray, List.getElem?_cons_succ, List.getElem?_cons_zero]; rfl) (by kernel_rfl) (fun _ _ _ _ _ h => h) ⟨(by rfl), (by intro c h; cases h), ?_⟩ hHeld ?_
                      rotate_left
                      focus (intro wS hSw; (try replace hSw := HSF.out wS hSw); (try dsimp only at hSw); go_simp; (try with_reducible rfl))
                      (try simp only [Act.put, List.setIfInBounds_toArray, List.set_cons_zero, List.set_cons_succ])
                      refine wpAnyG_pure 13 (v := ?_) (fun _ => trivial) (by simp only [List.getElem?_toArray, List.getElem?_cons_succ, List.getElem?_cons_zero]; rfl) (by kernel_rfl) (fun _ _ _ _ _ h => h) ⟨(by rfl), (by intro c h; cases h), ?_⟩ hHeld ?_
                      rotate_left
                      focus (intro wS hSw; (try replace hSw := HSF.out wS hSw); (try dsimp only at hSw); go_simp; (try with_reducible rfl))
                      (try simp only [Act.put, List.setIfInBounds_toArray, List.set_cons_zero, List.set_cons_succ])
                      refine wpAnyG_pure 14 (v := ?_) (fun _ => trivial) (by simp only [List.getElem?_toArray, List.getElem?_cons_succ, List.getElem?_cons_zero]; rfl) (by kernel_rfl) (fun _ _ _ _ _ h => h) ⟨(by rfl), (by intro c h; cases h), ?_⟩ hHeld ?_
                      rotate_left
                      focus (intro wS hSw; (try replace hSw := HSF.out wS hSw); (try dsimp only at hSw); go_simp; (try with_reducible rfl))
                      (try simp only [Act.put, List.setIfInBounds_toArray, List.set_cons_zero, List.set_cons_succ])
                      refine wpAnyG_pure 15 (v := ?_) (fun _ => trivial) (by simp only [List.getElem?_toArray, List.getElem?_cons_succ, List.getElem?_cons_zero]; rfl) (by kernel_rfl) (fun _ _ _ _ _ h => h) ⟨(by rfl), (by intro c h; cases h), ?_⟩ hHeld ?_
                      rotate_left
                      focus (intro wS hSw; (try replace hSw := HSF.out wS hSw); (try dsimp only at hSw); go_simp; (try with_reducible rfl))
                      (try simp only [Act.put, List.setIfInBounds_toArray, List.set_cons_zero, List.set_cons_succ])
                      refine wpAnyG_take 16 (v := ?_) (fun _ => trivial) (by simp only [List.getElem?_toArray, List.getElem?_cons_succ, List.getElem?_cons_zero]; rfl) (by kernel_rfl) (fun _ _ _ _ _ h => h) ⟨(by rfl), (by intro c h; cases h), ?_⟩ hHeld ?_
                      rotate_left
                      focus (intro wS hSw; (try replace hSw := HSF.out wS hSw); (try dsimp only at hSw); go_simp; (try with_reducible rfl))
                      (try simp only [Act.put, List.setIfInBounds_toArray, List.set_cons_zero, List.set_cons_succ])
                      refine wpAnyG_pure 17 (v := ?_) (fun _ => trivial) (by simp only [List.getElem?_toArray, List.getElem?_cons_succ, List.getElem?_cons_zero]; rfl) (by kernel_rfl) (fun _ _ _ _ _ h => h) ⟨(by rfl), (by intro c h; cases h), ?_⟩ hHeld ?_
                      rotate_left
                      focus (intro wS hSw; (try replace hSw := HSF.out wS hSw); (try dsimp only at hSw); go_simp; (try with_reducible rfl))
                      (try simp only [Act.put, List.setIfInBounds_toArray, List.set_cons_zero, List.set_cons_succ])
                      refine wpAnyG_pure 18 (v := ?_) (fun _ => trivial) (by simp only [List.getElem?_toArray, List.getElem?_cons_succ, List.getElem?_cons_zero]; rfl) (by kernel_rfl) (fun _ _ _ _ _ h => h) ⟨(by rfl), (by intro c h; cases h), ?_⟩ hHeld ?_
                      rotate_left
                      focus (intro wS hSw; (try replace hSw := HSF.out wS hSw); (try dsimp only at hSw); go_simp; (try with_reducible rfl))
                      (try simp only [Act.put, List.setIfInBounds_toArray, List.set_cons_zero, List.set_cons_succ])
                      refine wpAnyG_pure 19 (v := ?_) (fun _ => trivial) (by simp only [List.getElem?_toArray, List.getElem?_cons_succ, List.getElem?_cons_zero]; rfl) (by kernel_rfl) (fun _ _ _ _ _ h => h) ⟨(by rfl), (by intro c h; cases h), ?_⟩ hHeld ?_
                      rotate_left
                      focus (intro wS hSw; (try replace hSw := HSF.out wS hSw); (try dsimp only at hSw); go_simp; (try with_reducible rfl))
                      (try simp only [Act.put, List.setIfInBounds_toArray, List.set_cons_zero, List.set_cons_succ])
                      refine wpAnyG_pure 20 (v := ?_) (fun _ => trivial) (by simp only [List.getElem?_toArray, List.getElem?_cons_succ, List.getElem?_cons_zero]; rfl) (by kernel_rfl) (fun _ _ _ _ _ h => h) ⟨(by rfl), (by intro c h; cases h), ?_⟩ hHeld ?_
                      rotate_left
                      focus (intro wS hSw; (try replace hSw := HSF.out wS hSw); (try dsimp only at hSw); go_simp; (try with_reducible rfl))
                      (try simp only [Act.put, List.setIfInBounds_toArray, List.set_cons_zero, List.set_cons_succ])
                      refine wpAnyG_pure 21 (v := ?_) (fun _ => trivial) (by simp only [List.getElem?_toArray, List.getElem?_cons_succ, List.getElem?_cons_zero]; rfl) (by kernel_rfl) (fun _ _ _ _ _ h => h) ⟨(by rfl), (by intro c h; cases h), ?_⟩ hHeld ?_
                      rotate_left
                      focus (intro wS hSw; (try replace hSw := HSF.out wS hSw); (try dsimp only at hSw); go_simp; (try with_reducible rfl))
                      (try simp only [Act.put, List.setIfInBounds_toArray, List.set_cons_zero, List.set_cons_succ])
                      refine wpAnyG_pure 22 (v := ?_) (fun _ => trivial) (by simp only [List.getElem?_toArray, List.getElem?_cons_succ, List.getElem?_cons_zero]; rfl) (by kernel_rfl) (fun _ _ _ _ _ h => h) ⟨(by rfl), (by intro c h; cases h), ?_⟩ hHeld ?_
                      rotate_left
                      focus (intro wS hSw; (try replace hSw := HSF.out wS hSw); (try dsimp only at hSw); go_simp; (try with_reducible rfl))
                      (try simp only [Act.put, List.setIfInBounds_toArray, List.set_cons_zero, List.set_cons_succ])
                      refine wpAnyG_pure 23 (v := ?_) (fun _ => trivial) (by simp only [List.getElem?_toArray, List.getElem?_cons_succ, List.getElem?_cons_zero]; rfl) (by kernel_rfl) (fun _ _ _ _ _ h => h) ⟨(by rfl), (by intro c h; cases h), ?_⟩ hHeld ?_
                      rotate_left
                      focus (intro wS hSw; (try replace hSw := HSF.out wS hSw); (try dsimp only at hSw); go_simp; (try with_reducible rfl))
                      (try simp only [Act.put, List.setIfInBounds_toArray, List.set_cons_zero, List.set_cons_succ])
                      refine wpAnyG_take 24 (v := ?_) (fun _ => trivial) (by simp only [List.getElem?_toArray, List.getElem?_cons_succ, List.getElem?_cons_zero]; rfl) (by kernel_rfl) (fun _ _ _ _ _ h => h) ⟨(by rfl), (by intro c h; cases h), ?_⟩ hHeld ?_
                      rotate_left
                      focus (intro wS hSw; (try replace hSw := HSF.out wS hSw); (try dsimp only at hSw); go_simp; (try with_reducible rfl))
                      (try simp only [Act.put, List.setIfInBounds_toArray, List.set_cons_zero, List.set_cons_succ])
                      refine wpAnyG_pure 25 (v := ?_) (fun _ => trivial) (by simp only [List.getElem?_toArray, List.getElem?_cons_succ, List.getElem?_cons_zero]; rfl) (by kernel_rfl) (fun _ _ _ _ _ h => h) ⟨(by rfl), (by intro c h; cases h), ?_⟩ hHeld ?_
                      rotate_left
                      focus (intro wS hSw; (try replace hSw := HSF.out wS hSw); (try dsimp only at hSw); go_simp; (try with_reducible rfl))
                      (try simp only [Act.put, List.setIfInBounds_toArray, List.set_cons_zero, List.set_cons_succ])
                      refine wpAnyG_pure 26 (v := ?_) (fun _ => trivial) (by simp only [List.getElem?_toArray, List.getElem?_cons_succ, List.getElem?_cons_zero]; rfl) (by kernel_rfl) (fun _ _ _ _ _ h => h) ⟨(by rfl), (by intro c h; cases h), ?_⟩ hHeld ?_
                      rotate_left
                      focus (intro wS hSw; (try replace hSw := HSF.out wS hSw); (try dsimp only at hSw); go_simp; (try with_reducible rfl))
                      (try simp only [Act.put, List.setIfInBounds_toArray, List.set_cons_zero, List.set_cons_succ])
                      refine wpAnyG_pure 27 (v := ?_) (fun _ => trivial) (by simp only [List.getElem?_toArray, List.getElem?_cons_succ, List.getElem?_cons_zero]; rfl) (by kernel_rfl) (fun _ _ _ _ _ h => h) ⟨(by rfl), (by intro c h; cases h), ?_⟩ hHeld ?_
                      rotate_left
                      focus (intro wS hSw; (try replace hSw := HSF.out wS hSw); (try dsimp only at hSw); go_simp; (try with_reducible rfl))
                      (try simp only [Act.put, List.setIfInBounds_toArray, List.set_cons_zero, List.set_cons_succ])
                      refine wpAnyS_done (by kernel_rfl) ?_
                      clear hHeld HSF
                      go_wp2_with fail
                      go_roundw
                      case rel => exact ⟨j + 1, by omega, by go_num, Bcr.out.trans (BD.out.mono Bcr.out.size)⟩
                      case measure => simp [intOf]; omega
            case neg =>
              obtain rfl : j = l.length := by omega
              clear hj hjl
              go_upto_if 112 with fail
              go_cut [13] (fun v wx => v = .int .i64 t2 ∧ wr = wx)
              case first =>
                by_cases hta : t = a
                case pos =>
                  have hab : t2 = b := by rw [← HT2.out]; unfold doT; rw [if_pos hta]
                  subst hta hab
                  go_wp2_with fail
                  go_meet
                  exact ⟨rfl, rfl⟩
                case neg =>
                  have hab : t2 = t := by rw [← HT2.out]; unfold doT; rw [if_neg hta]
                  have hn1 : (t == (a : Int)) = false := by simp; omega
                  have hn2 : decide (t = (a : Int)) = false := by simp; omega
                  subst hab
                  go_wp2_with fail
                  go_meet
                  exact ⟨rfl, rfl⟩
              case rest =>
                obtain ⟨rfl, rfl⟩ := hcut
                clear l0 l1 s0 s1 m0 m1 ra rb k0 k1 k2 k3 k4
                have BD := hid (Bcr.out.drew)
                go_upto_region 19 with fail
                refine wpIn_wide.1 (wpIn_region_S (n := 0) (fun wq => Below wv.heap.size wv wq) [] (by kernel_rfl) BD.out (fun hHeld => ?_))
                generalize wr.drew = wd at *
                refine wpAnyG_pure 0 (v := ?_) (fun _ => trivial) (by simp only [List.getElem?_toArray, List.getElem?_cons_succ, List.getElem?_cons_zero]; rfl) (by kernel_rfl) (fun _ _ _ _ _ h => h) ⟨(by rfl), (by intro c h; cases h), ?_⟩ hHeld ?_
                rotate_left
                focus (intro wS hSw; (try replace hSw := HSF.out wS hSw); (try dsimp only at hSw); go_simp; (try with_reducible rfl))
                (try simp only [Act.put, List.setIfInBounds_toArray, List.set_cons_zero, List.set_cons_succ])
                refine wpAnyG_take 1 (v := ?_) (fun _ => trivial) (by simp only [List.getElem?_toArray, List.getElem?_cons_succ, List.getElem?_cons_zero]; rfl) (by kernel_rfl) (fun _ _ _ _ _ h => h) ⟨(by rfl), (by intro c h; cases h), ?_⟩ hHeld ?_
                rotate_left
                focus (intro wS hSw; (try replace hSw := HSF.out wS hSw); (try dsimp only at hSw); go_simp; (try with_reducible rfl))
                (try simp only [Act.put, List.setIfInBounds_toArray, List.set_cons_zero, List.set_cons_succ])
                refine wpAnyG_pure 2 (v := ?_) (fun _ => trivial) (by simp only [List.getElem?_toArray, List.getElem?_cons_succ, List.getElem?_cons_zero]; rfl) (by kernel_rfl) (fun _ _ _ _ _ h => h) ⟨(by rfl), (by intro c h; cases h), ?_⟩ hHeld ?_
                rotate_left
                focus (intro wS hSw; (try replace hSw := HSF.out wS hSw); (try dsimp only at hSw); go_simp; (try with_reducible rfl))
                (try simp only [Act.put, List.setIfInBounds_toArray, List.set_cons_zero, List.set_cons_succ])
                refine wpAnyG_pure 3 (v := ?_) (fun _ => trivial) (by simp only [List.getElem?_toArray, List.getElem?_cons_succ, List.getElem?_cons_zero]; rfl) (by kernel_rfl) (fun _ _ _ _ _ h => h) ⟨(by rfl), (by intro c h; cases h), ?_⟩ hHeld ?_
                rotate_left
                focus (intro wS hSw; (try replace hSw := HSF.out wS hSw); (try dsimp only at hSw); go_simp; (try with_reducible rfl))
                (try simp only [Act.put, List.setIfInBounds_toArray, List.set_cons_zero, List.set_cons_succ])
                refine wpAnyG_pure 4 (v := ?_) (fun _ => trivial) (by simp only [List.getElem?_toArray, List.getElem?_cons_succ, List.getElem?_cons_zero]; rfl) (by kernel_rfl) (fun _ _ _ _ _ h => h) ⟨(by rfl), (by intro c h; cases h), ?_⟩ hHeld ?_
                rotate_left
                focus (intro wS hSw; (try replace hSw := HSF.out wS hSw); (try dsimp only at hSw); go_simp; (try with_reducible rfl))
                (try simp only [Act.put, List.setIfInBounds_toArray, List.set_cons_zero, List.set_cons_succ])
                refine wpAnyG_take 5 (v := ?_) (fun _ => trivial) (by simp only [List.getElem?_toArray, List.getElem?_cons_succ, List.getElem?_cons_zero]; rfl) (by kernel_rfl) (fun _ _ _ _ _ h => h) ⟨(by rfl), (by intro c h; cases h), ?_⟩ hHeld ?_
                rotate_left
                focus (intro wS hSw; (try replace hSw := HSF.out wS hSw); (try dsimp only at hSw); go_simp; (try with_reducible rfl))
                (try simp only [Act.put, List.setIfInBounds_toArray, List.set_cons_zero, List.set_cons_succ])
                refine wpAnyG_pure 6 (v := ?_) (fun _ => trivial) (by simp only [List.getElem?_toArray, List.getElem?_cons_succ, List.getElem?_cons_zero]; rfl) (by kernel_rfl) (fun _ _ _ _ _ h => h) ⟨(by rfl), (by intro c h; cases h), ?_⟩ hHeld ?_
                rotate_left
                focus (intro wS hSw; (try replace hSw := HSF.out wS hSw); (try dsimp only at hSw); go_simp; (try with_reducible rfl))
                (try simp only [Act.put, List.setIfInBounds_toArray, List.set_cons_zero, List.set_cons_succ])
                refine wpAnyG_pure 7 (v := ?_) (fun _ => trivial) (by simp only [List.getElem?_toArray, List.getElem?_cons_succ, List.getElem?_cons_zero]; rfl) (by kernel_rfl) (fun _ _ _ _ _ h => h) ⟨(by rfl), (by intro c h; cases h), ?_⟩ hHeld ?_
                rotate_left
                focus (intro wS hSw; (try replace hSw := HSF.out wS hSw); (try dsimp only at hSw); go_simp; (try with_reducible rfl))
                (try simp only [Act.put, List.setIfInBounds_toArray, List.set_cons_zero, List.set_cons_succ])
                refine wpAnyG_pure 8 (v := ?_) (fun _ => trivial) (by simp only [List.getElem?_toArray, List.getElem?_cons_succ, List.getElem?_cons_zero]; rfl) (by kernel_rfl) (fun _ _ _ _ _ h => h) ⟨(by rfl), (by intro c h; cases h), ?_⟩ hHeld ?_
                rotate_left
                focus (intro wS hSw; (try replace hSw := HSF.out wS hSw); (try dsimp only at hSw); go_simp; (try with_reducible rfl))
                (try simp only [Act.put, List.setIfInBounds_toArray, List.set_cons_zero, List.set_cons_succ])
                refine wpAnyG_pure 9 (v := ?_) (fun _ => trivial) (by simp only [List.getElem?_toArray, List.getElem?_cons_succ, List.getElem?_cons_zero]; rfl) (by kernel_rfl) (fun _ _ _ _ _ h => h) ⟨(by rfl), (by intro c h; cases h), ?_⟩ hHeld ?_
                rotate_left
                focus (intro wS hSw; (try replace hSw := HSF.out wS hSw); (try dsimp only at hSw); go_simp; (try with_reducible rfl))
                (try simp only [Act.put, List.setIfInBounds_toArray, List.set_cons_zero, List.set_cons_succ])
                refine wpAnyG_pure 10 (v := ?_) (fun _ => trivial) (by simp only [List.getElem?_toArray, List.getElem?_cons_succ, List.getElem?_cons_zero]; rfl) (by kernel_rfl) (fun _ _ _ _ _ h => h) ⟨(by rfl), (by intro c h; cases h), ?_⟩ hHeld ?_
                rotate_left
                focus (intro wS hSw; (try replace hSw := HSF.out wS hSw); (try dsimp only at hSw); go_simp; (try with_reducible rfl))
                (try simp only [Act.put, List.setIfInBounds_toArray, List.set_cons_zero, List.set_cons_succ])
                refine wpAnyG_take 11 (v := ?_) (fun _ => trivial) (by simp only [List.getElem?_toArray, List.getElem?_cons_succ, List.getElem?_cons_zero]; rfl) (by kernel_rfl) (fun _ _ _ _ _ h => h) ⟨(by rfl), (by intro c h; cases h), ?_⟩ hHeld ?_
                rotate_left
                focus (intro wS hSw; (try replace hSw := HSF.out wS hSw); (try dsimp only at hSw); go_simp; (try with_reducible rfl))
                (try simp only [Act.put, List.setIfInBounds_toArray, List.set_cons_zero, List.set_cons_succ])
                refine wpAnyG_pure 12 (v := ?_) (fun _ => trivial) (by simp only [List.getElem?_toArray, List.getElem?_cons_succ, List.getElem?_cons_zero]; rfl) (by kernel_rfl) (fun _ _ _ _ _ h => h) ⟨(by rfl), (by intro c h; cases h), ?_⟩ hHeld ?_
                rotate_left
                focus (intro wS hSw; (try replace hSw := HSF.out wS hSw); (try dsimp only at hSw); go_simp; (try with_reducible rfl))
                (try simp only [Act.put, List.setIfInBounds_toArray, List.set_cons_zero, List.set_cons_succ])
                refine wpAnyG_take 13 (v := ?_) (fun _ => trivial) (by simp only [List.getElem?_toArray, List.getElem?_cons_succ, List.getElem?_cons_zero]; rfl) (by kernel_rfl) (fun _ _ _ _ _ h => h) ⟨(by rfl), (by intro c h; cases h), ?_⟩ hHeld ?_
                rotate_left
                focus (intro wS hSw; (try replace hSw := HSF.out wS hSw); (try dsimp only at hSw); go_simp; (try with_reducible rfl))
                (try simp only [Act.put, List.setIfInBounds_toArray, List.set_cons_zero, List.set_cons_succ])
                refine wpAnyG_pure 14 (v := ?_) (fun _ => trivial) (by simp only [List.getElem?_toArray, List.getElem?_cons_succ, List.getElem?_cons_zero]; rfl) (by kernel_rfl) (fun _ _ _ _ _ h => h) ⟨(by rfl), (by intro c h; cases h), ?_⟩ hHeld ?_
                rotate_left
                focus (intro wS hSw; (try replace hSw := HSF.out wS hSw); (try dsimp only at hSw); go_simp; (try with_reducible rfl))
                (try simp only [Act.put, List.setIfInBounds_toArray, List.set_cons_zero, List.set_cons_succ])
                refine wpAnyG_pure 15 (v := ?_) (fun _ => trivial) (by simp only [List.getElem?_toArray, List.getElem?_cons_succ, List.getElem?_cons_zero]; rfl) (by kernel_rfl) (fun _ _ _ _ _ h => h) ⟨(by rfl), (by intro c h; cases h), ?_⟩ hHeld ?_
                rotate_left
                focus (intro wS hSw; (try replace hSw := HSF.out wS hSw); (try dsimp only at hSw); go_simp; (try with_reducible rfl))
                (try simp only [Act.put, List.setIfInBounds_toArray, List.set_cons_zero, List.set_cons_succ])
                refine wpAnyG_pure 16 (v := ?_) (fun _ => trivial) (by simp only [List.getElem?_toArray, List.getElem?_cons_succ, List.getElem?_cons_zero]; rfl) (by kernel_rfl) (fun _ _ _ _ _ h => h) ⟨(by rfl), (by intro c h; cases h), ?_⟩ hHeld ?_
                rotate_left
                focus (intro wS hSw; (try replace hSw := HSF.out wS hSw); (try dsimp only at hSw); go_simp; (try with_reducible rfl))
                (try simp only [Act.put, List.setIfInBounds_toArray, List.set_cons_zero, List.set_cons_succ])
                refine wpAnyG_pure 17 (v := ?_) (fun _ => trivial) (by simp only [List.getElem?_toArray, List.getElem?_cons_succ, List.getElem?_cons_zero]; rfl) (by kernel_rfl) (fun _ _ _ _ _ h => h) ⟨(by rfl), (by intro c h; cases h), ?_⟩ hHeld ?_
                rotate_left
                focus (intro wS hSw; (try replace hSw := HSF.out wS hSw); (try dsimp only at hSw); go_simp; (try with_reducible rfl))
                (try simp only [Act.put, List.setIfInBounds_toArray, List.set_cons_zero, List.set_cons_succ])
                refine wpAnyG_pure 18 (v := ?_) (fun _ => trivial) (by simp only [List.getElem?_toArray, List.getElem?_cons_succ, List.getElem?_cons_zero]; rfl) (by kernel_rfl) (fun _ _ _ _ _ h => h) ⟨(by rfl), (by intro c h; cases h), ?_⟩ hHeld ?_
                rotate_left
                focus (intro wS hSw; (try replace hSw := HSF.out wS hSw); (try dsimp only at hSw); go_simp; (try with_reducible rfl))
                (try simp only [Act.put, List.setIfInBounds_toArray, List.set_cons_zero, List.set_cons_succ])
                refine wpAnyG_take 19 (v := ?_) (fun _ => trivial) (by simp only [List.getElem?_toArray, List.getElem?_cons_succ, List.getElem?_cons_zero]; rfl) (by kernel_rfl) (fun _ _ _ _ _ h => h) ⟨(by rfl), (by intro c h; cases h), ?_⟩ hHeld ?_
                rotate_left
                focus (intro wS hSw; (try replace hSw := HSF.out wS hSw); (try dsimp only at hSw); go_simp; (try with_reducible rfl))
                (try simp only [Act.put, List.setIfInBounds_toArray, List.set_cons_zero, List.set_cons_succ])
                refine wpAnyG_pure 20 (v := ?_) (fun _ => trivial) (by simp only [List.getElem?_toArray, List.getElem?_cons_succ, List.getElem?_cons_zero]; rfl) (by kernel_rfl) (fun _ _ _ _ _ h => h) ⟨(by rfl), (by intro c h; cases h), ?_⟩ hHeld ?_
                rotate_left
                focus (intro wS hSw; (try replace hSw := HSF.out wS hSw); (try dsimp only at hSw); go_simp; (try with_reducible rfl))
                (try simp only [Act.put, List.setIfInBounds_toArray, List.set_cons_zero, List.set_cons_succ])
                refine wpAnyG_take 21 (v := ?_) (fun _ => trivial) (by simp only [List.getElem?_toArray, List.getElem?_cons_succ, List.getElem?_cons_zero]; rfl) (by kernel_rfl) (fun _ _ _ _ _ h => h) ⟨(by rfl), (by intro c h; cases h), ?_⟩ hHeld ?_
                rotate_left
                focus (intro wS hSw; (try replace hSw := HSF.out wS hSw); (try dsimp only at hSw); go_simp; (try with_reducible rfl))
                (try simp only [Act.put, List.setIfInBounds_toArray, List.set_cons_zero, List.set_cons_succ])
                refine wpAnyS_ready [22] (by kernel_rfl) (by simp) (AllReadyS.consG (by simp only [List.getElem?_toArray, List.getElem?_cons_succ, List.getElem?_cons_zero]; rfl) (by rfl) (fun K hK => ?_) AllReadyS.nil)
                refine callS (by intro c h; cases h) (by go_simp; try with_reducible rfl) (HGE.out _ BD.out) ?_
                intro w8 hBq
                have B8 := hid (BD.out.trans (hBq.mono BD.out.size))
                refine hK.out _ _ B8.out ?_
                (try simp only [Act.put, List.setIfInBounds_toArray, List.set_cons_zero, List.set_cons_succ])
                clear hK K hBq
                clear hHeld
                have hHeld := B8.out
                refine wpAnyG_pure 23 (v := ?_) (fun _ => trivial) (by simp only [List.getElem?_toArray, List.getElem?_cons_succ, List.getElem?_cons_zero]; rfl) (by kernel_rfl) (fun _ _ _ _ _ h => h) ⟨(by rfl), (by intro c h; cases h), ?_⟩ hHeld ?_
                rotate_left
                focus (intro wS hSw; (try replace hSw := HSF.out wS hSw); (try dsimp only at hSw); go_simp; (try with_reducible rfl))
                (try simp only [Act.put, List.setIfInBounds_toArray, List.set_cons_zero, List.set_cons_succ])
                refine wpAnyG_pure 24 (v := ?_) (fun _ => trivial) (by simp only [List.getElem?_toArray, List.getElem?_cons_succ, List.getElem?_cons_zero]; rfl) (by kernel_rfl) (fun _ _ _ _ _ h => h) ⟨(by rfl), (by intro c h; cases h), ?_⟩ hHeld ?_
                rotate_left
                focus (intro wS hSw; (try replace hSw := HSF.out wS hSw); (try dsimp only at hSw); go_simp; (try with_reducible rfl))
                (try simp only [Act.put, List.setIfInBounds_toArray, List.set_cons_zero, List.set_cons_succ])
                refine wpAnyG_pure 25 (v := ?_) (fun _ => trivial) (by simp only [List.getElem?_toArray, List.getElem?_cons_succ, List.getElem?_cons_zero]; rfl) (by kernel_rfl) (fun _ _ _ _ _ h => h) ⟨(by rfl), (by intro c h; cases h), ?_⟩ hHeld ?_
                rotate_left
                focus (intro wS hSw; (try replace hSw := HSF.out wS hSw); (try dsimp only at hSw); go_simp; (try with_reducible rfl))
                (try simp only [Act.put, List.setIfInBounds_toArray, List.set_cons_zero, List.set_cons_succ])
                refine wpAnyG_take 26 (v := ?_) (fun _ => trivial) (by simp only [List.getElem?_toArray, List.getElem?_cons_succ, List.getElem?_cons_zero]; rfl) (by kernel_rfl) (fun _ _ _ _ _ h => h) ⟨(by rfl), (by intro c h; cases h), ?_⟩ hHeld ?_
                rotate_left
                focus (intro wS hSw; (try replace hSw := HSF.out wS hSw); (try dsimp only at hSw); go_simp; (try with_reducible rfl))
                (try simp only [Act.put, List.setIfInBounds_toArray, List.set_cons_zero, List.set_cons_succ])
                refine wpAnyG_pure 27 (v := ?_) (fun _ => trivial) (by simp only [List.getElem?_toArray, List.getElem?_cons_succ, List.getElem?_cons_zero]; rfl) (by kernel_rfl) (fun _ _ _ _ _ h => h) ⟨(by rfl), (by intro c h; cases h), ?_⟩ hHeld ?_
                rotate_left
                focus (intro wS hSw; (try replace hSw := HSF.out wS hSw); (try dsimp only at hSw); go_simp; (try with_reducible rfl))
                (try simp only [Act.put, List.setIfInBounds_toArray, List.set_cons_zero, List.set_cons_succ])
                refine wpAnyG_take 28 (v := ?_) (fun _ => trivial) (by simp only [List.getElem?_toArray, List.getElem?_cons_succ, List.getElem?_cons_zero]; rfl) (by kernel_rfl) (fun _ _ _ _ _ h => h) ⟨(by rfl), (by intro c h; cases h), ?_⟩ hHeld ?_
                rotate_left
                focus (intro wS hSw; (try replace hSw := HSF.out wS hSw); (try dsimp only at hSw); go_simp; (try with_reducible rfl))
                (try simp only [Act.put, List.setIfInBounds_toArray, List.set_cons_zero, List.set_cons_succ])
                refine wpAnyG_pure 30 (v := ?_) (fun _ => trivial) (by simp only [List.getElem?_toArray, List.getElem?_cons_succ, List.getElem?_cons_zero]; rfl) (by kernel_rfl) (fun _ _ _ _ _ h => h) ⟨(by rfl), (by intro c h; cases h), ?_⟩ hHeld ?_
                rotate_left
                focus (intro wS hSw; (try replace hSw := HSF.out wS hSw); (try dsimp only at hSw); go_simp; (try with_reducible rfl))
                (try simp only [Act.put, List.setIfInBounds_toArray, List.set_cons_zero, List.set_cons_succ])
                refine wpAnyG_pure 31 (v := ?_) (fun _ => trivial) (by simp only [List.getElem?_toArray, List.getElem?_cons_succ, List.getElem?_cons_zero]; rfl) (by kernel_rfl) (fun _ _ _ _ _ h => h) ⟨(by rfl), (by intro c h; cases h), ?_⟩ hHeld ?_
                rotate_left
                focus (intro wS hSw; (try replace hSw := HSF.out wS hSw); (try dsimp only at hSw); go_simp; (try with_reducible rfl))
                (try simp only [Act.put, List.setIfInBounds_toArray, List.set_cons_zero, List.set_cons_succ])
                refine wpAnyG_pure 32 (v := ?_) (fun _ => trivial) (by simp only [List.getElem?_toArray, List.getElem?_cons_succ, List.getElem?_cons_zero]; rfl) (by kernel_rfl) (fun _ _ _ _ _ h => h) ⟨(by rfl), (by intro c h; cases h), ?_⟩ hHeld ?_
                rotate_left
                focus (intro wS hSw; (try replace hSw := HSF.out wS hSw); (try dsimp only at hSw); go_simp; (try with_reducible rfl))
                (try simp only [Act.put, List.setIfInBounds_toArray, List.set_cons_zero, List.set_cons_succ])
                refine wpAnyG_take 33 (v := ?_) (fun _ => trivial) (by simp only [List.getElem?_toArray, List.getElem?_cons_succ, List.getElem?_cons_zero]; rfl) (by kernel_rfl) (fun _ _ _ _ _ h => h) ⟨(by rfl), (by intro c h; cases h), ?_⟩ hHeld ?_
                rotate_left
                focus (intro wS hSw; (try replace hSw := HSF.out wS hSw); (try dsimp only at hSw); go_simp; (try with_reducible rfl))
                (try simp only [Act.put, List.setIfInBounds_toArray, List.set_cons_zero, List.set_cons_succ])
                refine wpAnyS_ready [29] (by kernel_rfl) (by simp) (AllReadyS.consG (by simp only [List.getElem?_toArray, List.getElem?_cons_succ, List.getElem?_cons_zero]; rfl) (by rfl) (fun K hK => ?_) AllReadyS.nil)
                refine callV (R := fun u w' => ∃ (A6 : Option Addr) (c6 : Nat) (s6 : List Sh), u = .slice A6 s6.length c6 ∧ s6.length ≤ 144 ∧ (∀ x, x ∈ s6 ↔ x ∈ allS W H D kind out r m false r.length) ∧ SlR w' w'.heap.size A6 s6 ∧ Below w8.heap.size w8 w') (by intro c h; cases h) (by go_simp; try with_reducible rfl) ((HBK.out w8 B8.out).mono (fun e w' ⟨A', c', s', he, h1, h2, hs, hb⟩ => ⟨_, he, A', c', s', rfl, h1, h2, hs, hb⟩)) ?_
                rintro u w9 ⟨A6, c6, s6, rfl, hs6, hm6, hsl6, hb9⟩
                have B9 := hid (B8.out.trans (hb9.mono B8.out.size))
                have HS6 := hid hsl6
                have hhas := hid (hasN_iff.2 ((hm6 _).2 hmO.out))
                have HHS := hid (has_any A6 c6 s6 ((a : Int), (b : Int)) w9 (by unfold maxLen; omega) hsl6)
                rw [hhas.out] at HHS
                refine hK.out _ _ B9.out ?_
                (try simp only [Act.put, List.setIfInBounds_toArray, List.set_cons_zero, List.set_cons_succ])
                clear hK K hHeld hsl6 hb9 hm6 hhas
                have hHeld := B9.out
                refine wpAnyS_ready [34] (by kernel_rfl) (by simp) (AllReadyS.consG (by simp only [List.getElem?_toArray, List.getElem?_cons_succ, List.getElem?_cons_zero]; rfl) (by rfl) (fun K hK => ?_) AllReadyS.nil)
                refine callS (by intro c h; cases h) (by go_simp; try with_reducible rfl) (HHS.out) ?_
                intro wt hBq
                have B10 := hid (B9.out.trans (hBq.mono B9.out.size))
                refine hK.out _ _ B10.out ?_
                (try simp only [Act.put, List.setIfInBounds_toArray, List.set_cons_zero, List.set_cons_succ])
                clear hK K hBq
                clear hHeld
                have hHeld := B10.out
                refine wpAnyG_pure 35 (v := ?_) (fun _ => trivial) (by simp only [List.getElem?_toArray, List.getElem?_cons_succ, List.getElem?_cons_zero]; rfl) (by kernel_rfl) (fun _ _ _ _ _ h => h) ⟨(by rfl), (by intro c h; cases h), ?_⟩ hHeld ?_
                rotate_left
                focus (intro wS hSw; (try replace hSw := HSF.out wS hSw); (try dsimp only at hSw); go_simp; (try with_reducible rfl))
                (try simp only [Act.put, List.setIfInBounds_toArray, List.set_cons_zero, List.set_cons_succ])
                refine wpAnyG_pure 36 (v := ?_) (fun _ => trivial) (by simp only [List.getElem?_toArray, List.getElem?_cons_succ, List.getElem?_cons_zero]; rfl) (by kernel_rfl) (fun _ _ _ _ _ h => h) ⟨(by rfl), (by intro c h; cases h), ?_⟩ hHeld ?_
                rotate_left
                focus (intro wS hSw; (try replace hSw := HSF.out wS hSw); (try dsimp only at hSw); go_simp; (try with_reducible rfl))
                (try simp only [Act.put, List.setIfInBounds_toArray, List.set_cons_zero, List.set_cons_succ])
                refine wpAnyS_done (by kernel_rfl) ?_
                clear hHeld HSF HGE HBK HHS B8 B9 HS6
                go_wp2_with fail
                go_roundw
                case rel => exact ⟨k + 1, by omega, by go_num, B4c.out.trans (B10.out.mono B4c.out.size)⟩
                case measure => simp [intOf]; omega
    case neg =>
      obtain rfl : k = s.length := by omega
      clear hk hlt HMEM HSL hs144 B4y B4
      obtain ⟨⟨k0, k1, k2, k3, k4⟩, l0, l1, xz, lz⟩ := HX.out wy B1y.out
      have HBS := hid (backsT_any W H D Ak Ao ck co kind out Ar Al cr cl r l t wy HRF.out (HK.out wy B1y.out) (HO.out wy B1y.out) (HR.out wy B1y.out) (HL.out wy B1y.out) HPW.out HRL.out hl24)
      go_wp2_with fail
      refine HBS.out.mono ?_
      rintro e w5 ⟨A4, c4, s, rfl, hs144, hmem, hsl, hB⟩
      have B15 := hid (B1y.out.trans (hB.mono B1y.out.size))
      have HSL := hid hsl
      have HMEM := hid hmem
      clear hB hsl hmem HBS k0 k1 k2 k3 k4 l0 l1 xz lz B1y B3 B2
      go_upto_region 23 with fail
      go_loopw [15] (fun i wr => ∃ k : Nat, k ≤ s.length ∧ i = .int .i64 k ∧ Below w5.heap.size w5 wr) (fun i _ => s.length - (intOf i).toNat)
      case atStart => exact ⟨0, by omega, rfl, Below.refl _ _⟩
      case round =>
        obtain ⟨k, hk, rfl, hB⟩ := hrel
        obtain ⟨wz, hwz⟩ : ∃ wz, wz = wr := ⟨_, rfl⟩
        subst hwz
        have B5z := hid hB
        have B1z := hid (B15.out.trans (hB.mono B15.out.size))
        clear hB
        by_cases hlt : k < s.length
        case pos =>
          have hlt' : (k : Int) < s.length := by omega
          obtain ⟨a, b, hok⟩ := (allS_mem HPW.out HRL.out rfl).1 ((HMEM.out s[k]).1 (List.getElem_mem hlt))
          obtain ⟨bS, oS, hAS, hbS, s0, s1, -, -⟩ := HSL.out.sh hlt
          rw [hok.eq] at s0 s1
          simp only at s0 s1
          subst hAS
          have HOK := hid hok
          have hP := shP hok
          have HP := hid hP
          have hal := hP.al
          have hbl := hP.bl
          clear hok hP
          have zS : bS < wz.heap.size := by have := B5z.out.size; omega
          replace s0 := (bcell B5z.out _ _ hbS).trans s0
          replace s1 := (bcell B5z.out _ _ hbS).trans s1
          obtain ⟨⟨k0, k1, k2, k3, k4⟩, l0, l1, xz, lz⟩ := HX.out wz B1z.out
          have HSF := hid (fun (wq : World) (hq : Below wz.heap.size wz wq) => And.intro ((bcell hq _ _ lz).trans l0) (And.intro ((bcell hq _ _ lz).trans l1) (And.intro ((bcell hq _ _ zS).trans s0) ((bcell hq _ _ zS).trans s1))))
          have HDo := hid (fun (W' : World) (hW : Below wz.heap.size wz W') => (do_any Al cl l t b a W' hl24 (HL.out W' (B1z.out.trans (hW.mono B1z.out.size))) HP.out.bl HP.out.al HP.out.fb HP.out.fa).mono (R' := fun e w' => ∃ (A' : Option Addr) (c' : Nat), e = Ending.returned (.tuple #[.agg #[.slice A' l.length c', .int .i64 (doT t b a)], .int .i64 0]) ∧ SlR w' w'.heap.size A' (doL l b a) ∧ Below W'.heap.size W' w') (fun e w' ⟨A', c', he, _, _, hs, hb⟩ => ⟨A', c', he, hs, hb⟩))
          have hml := hid (doL_len l b a)
          have hmR := hid (doL_right HRT.out hbl hal)
          have hne : a ≠ b := fun e => by have h1 := HP.out.fa; have h2 := HP.out.fb; subst e; rw [h1] at h2; cases h2
          have hma := hid (show (doL l b a)[a]? = some true by rw [List.getElem?_eq_getElem (by rw [doL_len]; exact hal), doL_at a hal, if_pos rfl])
          have hmb := hid (show (doL l b a)[b]? = some false by rw [List.getElem?_eq_getElem (by rw [doL_len]; exact hbl), doL_at b hbl, if_neg hne, if_pos rfl])
          have hmO := hid (sh_other (W := W) (H := H) (D := D) (kind := kind) (out := out) (x := ((a : Int), (b : Int))) (m := doL l b a) (full := false) HPW.out HRL.out (by have := HOK.out; rw [this.eq] at this; exact this) (doL_len l b a) (by
            rw [getB_at (by rw [doL_len]; exact hal), doL_at a hal, if_pos rfl]; rfl) (by
            rw [getB_at (by rw [doL_len]; exact hbl), doL_at b hbl, if_neg hne, if_pos rfl]))
          have hback := hid (doL_back hal hbl HP.out.fa HP.out.fb)
          have hbackT := hid (doT_back (b := b) HRT.out hal HP.out.fa)
          generalize doL l b a = m at *
          have hmposm := hid (show 0 < m.length by rw [hml.out]; exact hmpos.out)
          obtain ⟨t2, ht2⟩ : ∃ t2, doT t b a = t2 := ⟨_, rfl⟩
          rw [ht2] at HDo hmR hbackT
          clear ht2 hne
          go_upto_region 25 with fail
          go_cut [16, 17] (fun bv ev wx => ∃ (g : Nat) (A5 : Option Addr) (c5 : Nat), bv = .pointer (some ⟨g, 0, none⟩) ∧ ev = .int .i64 0 ∧ Blk wx g 27 #[.slice A5 l.length c5, .int .i64 t2] ∧ SlR wx wx.heap.size A5 m ∧ Below wz.heap.size wz wx)
          case first =>
            as_aux_lemma =>
              have BD := hid ((Below.refl wz.heap.size wz).drew)
              refine wpIn_wide.1 (wpIn_region_S (n := 0) (fun wq => Below wz.heap.size wz wq) [] (by kernel_rfl) BD.out (fun hHeld => ?_))
              generalize wz.drew = wd at *
              refine wpAnyG_take 0 (v := ?_) (fun _ => trivial) (by simp only [List.getElem?_toArray, List.getElem?_cons_succ, List.getElem?_cons_zero]; rfl) (by kernel_rfl) (fun _ _ _ _ _ h => h) ⟨(by rfl), (by intro c h; cases h), ?_⟩ hHeld ?_
              rotate_left
              focus (intro wS hSw; (try replace hSw := HSF.out wS hSw); (try dsimp only at hSw); go_simp; (try with_reducible rfl))
              (try simp only [Act.put, List.setIfInBounds_toArray, List.set_cons_zero, List.set_cons_succ])
              refine wpAnyG_pure 1 (v := ?_) (fun _ => trivial) (by simp only [List.getElem?_toArray, List.getElem?_cons_succ, List.getElem?_cons_zero]; rfl) (by kernel_rfl) (fun _ _ _ _ _ h => h) ⟨(by rfl), (by intro c h; cases h), ?_⟩ hHeld ?_
              rotate_left
              focus (intro wS hSw; (try replace hSw := HSF.out wS hSw); (try dsimp only at hSw); go_simp; (try with_reducible rfl))
              (try simp only [Act.put, List.setIfInBounds_toArray, List.set_cons_zero, List.set_cons_succ])
              refine wpAnyG_pure 2 (v := ?_) (fun _ => trivial) (by simp only [List.getElem?_toArray, List.getElem?_cons_succ, List.getElem?_cons_zero]; rfl) (by kernel_rfl) (fun _ _ _ _ _ h => h) ⟨(by rfl), (by intro c h; cases h), ?_⟩ hHeld ?_
              rotate_left
              focus (intro wS hSw; (try replace hSw := HSF.out wS hSw); (try dsimp only at hSw); go_simp; (try with_reducible rfl))
              (try simp only [Act.put, List.setIfInBounds_toArray, List.set_cons_zero, List.set_cons_succ])
              refine wpAnyG_pure 3 (v := ?_) (fun _ => trivial) (by simp only [List.getElem?_toArray, List.getElem?_cons_succ, List.getElem?_cons_zero]; rfl) (by kernel_rfl) (fun _ _ _ _ _ h => h) ⟨(by rfl), (by intro c h; cases h), ?_⟩ hHeld ?_
              rotate_left
              focus (intro wS hSw; (try replace hSw := HSF.out wS hSw); (try dsimp only at hSw); go_simp; (try with_reducible rfl))
              (try simp only [Act.put, List.setIfInBounds_toArray, List.set_cons_zero, List.set_cons_succ])
              refine wpAnyG_pure 4 (v := ?_) (fun _ => trivial) (by simp only [List.getElem?_toArray, List.getElem?_cons_succ, List.getElem?_cons_zero]; rfl) (by kernel_rfl) (fun _ _ _ _ _ h => h) ⟨(by rfl), (by intro c h; cases h), ?_⟩ hHeld ?_
              rotate_left
              focus (intro wS hSw; (try replace hSw := HSF.out wS hSw); (try dsimp only at hSw); go_simp; (try with_reducible rfl))
              (try simp only [Act.put, List.setIfInBounds_toArray, List.set_cons_zero, List.set_cons_succ])
              refine wpAnyG_take 5 (v := ?_) (fun _ => trivial) (by simp only [List.getElem?_toArray, List.getElem?_cons_succ, List.getElem?_cons_zero]; rfl) (by kernel_rfl) (fun _ _ _ _ _ h => h) ⟨(by rfl), (by intro c h; cases h), ?_⟩ hHeld ?_
              rotate_left
              focus (intro wS hSw; (try replace hSw := HSF.out wS hSw); (try dsimp only at hSw); go_simp; (try with_reducible rfl))
              (try simp only [Act.put, List.setIfInBounds_toArray, List.set_cons_zero, List.set_cons_succ])
              refine wpAnyG_pure 6 (v := ?_) (fun _ => trivial) (by simp only [List.getElem?_toArray, List.getElem?_cons_succ, List.getElem?_cons_zero]; rfl) (by kernel_rfl) (fun _ _ _ _ _ h => h) ⟨(by rfl), (by intro c h; cases h), ?_⟩ hHeld ?_
              rotate_left
              focus (intro wS hSw; (try replace hSw := HSF.out wS hSw); (try dsimp only at hSw); go_simp; (try with_reducible rfl))
              (try simp only [Act.put, List.setIfInBounds_toArray, List.set_cons_zero, List.set_cons_succ])
              refine wpAnyG_pure 7 (v := ?_) (fun _ => trivial) (by simp only [List.getElem?_toArray, List.getElem?_cons_succ, List.getElem?_cons_zero]; rfl) (by kernel_rfl) (fun _ _ _ _ _ h => h) ⟨(by rfl), (by intro c h; cases h), ?_⟩ hHeld ?_
              rotate_left
              focus (intro wS hSw; (try replace hSw := HSF.out wS hSw); (try dsimp only at hSw); go_simp; (try with_reducible rfl))
              (try simp only [Act.put, List.setIfInBounds_toArray, List.set_cons_zero, List.set_cons_succ])
              refine wpAnyG_pure 8 (v := ?_) (fun _ => trivial) (by simp only [List.getElem?_toArray, List.getElem?_cons_succ, List.getElem?_cons_zero]; rfl) (by kernel_rfl) (fun _ _ _ _ _ h => h) ⟨(by rfl), (by intro c h; cases h), ?_⟩ hHeld ?_
              rotate_left
              focus (intro wS hSw; (try replace hSw := HSF.out wS hSw); (try dsimp only at hSw); go_simp; (try with_reducible rfl))
              (try simp only [Act.put, List.setIfInBounds_toArray, List.set_cons_zero, List.set_cons_succ])
              refine wpAnyG_pure 9 (v := ?_) (fun _ => trivial) (by simp only [List.getElem?_toArray, List.getElem?_cons_succ, List.getElem?_cons_zero]; rfl) (by kernel_rfl) (fun _ _ _ _ _ h => h) ⟨(by rfl), (by intro c h; cases h), ?_⟩ hHeld ?_
              rotate_left
              focus (intro wS hSw; (try replace hSw := HSF.out wS hSw); (try dsimp only at hSw); go_simp; (try with_reducible rfl))
              (try simp only [Act.put, List.setIfInBounds_toArray, List.set_cons_zero, List.set_cons_succ])
              refine wpAnyG_take 10 (v := ?_) (fun _ => trivial) (by simp only [List.getElem?_toArray, List.getElem?_cons_succ, List.getElem?_cons_zero]; rfl) (by kernel_rfl) (fun _ _ _ _ _ h => h) ⟨(by rfl), (by intro c h; cases h), ?_⟩ hHeld ?_
              rotate_left
              focus (intro wS hSw; (try replace hSw := HSF.out wS hSw); (try dsimp only at hSw); go_simp; (try with_reducible rfl))
              (try simp only [Act.put, List.setIfInBounds_toArray, List.set_cons_zero, List.set_cons_succ])
              refine wpAnyG_pure 11 (v := ?_) (fun _ => trivial) (by simp only [List.getElem?_toArray, List.getElem?_cons_succ, List.getElem?_cons_zero]; rfl) (by kernel_rfl) (fun _ _ _ _ _ h => h) ⟨(by rfl), (by intro c h; cases h), ?_⟩ hHeld ?_
              rotate_left
              focus (intro wS hSw; (try replace hSw := HSF.out wS hSw); (try dsimp only at hSw); go_simp; (try with_reducible rfl))
              (try simp only [Act.put, List.setIfInBounds_toArray, List.set_cons_zero, List.set_cons_succ])
              refine wpAnyS_ready [12, 16] (by kernel_rfl) (by simp) (AllReadyS.cons (by simp only [List.getElem?_toArray, List.getElem?_cons_succ, List.getElem?_cons_zero]; rfl) rfl (fun K hK => ?_) (AllReadyS.cons (by simp only [List.getElem?_toArray, List.getElem?_cons_succ, List.getElem?_cons_zero]; rfl) rfl (fun K hK => ?_) AllReadyS.nil))
              · -- the call first
                refine callV (R := fun u w' => ∃ (A5 : Option Addr) (c5 : Nat), u = .tuple #[.agg #[.slice A5 l.length c5, .int .i64 (t2)], .int .i64 0] ∧ SlR w' w'.heap.size A5 m ∧ Below wd.heap.size wd w') (by intro c h; cases h) (by go_simp; try with_reducible rfl) ((HDo.out wd BD.out).mono (fun e w' ⟨A', c', he, hs, hb⟩ => ⟨_, he, A', c', rfl, hs, hb⟩)) ?_
                rintro u wf ⟨A5, c5, rfl, hsl, hbl2⟩
                have BF := hid (BD.out.trans (hbl2.mono BD.out.size))
                have HM := hid hsl
                have HB2 := hid hbl2
                refine hK.out _ _ BF.out ?_
                (try simp only [Act.put, List.setIfInBounds_toArray, List.set_cons_zero, List.set_cons_succ])
                clear hK K hHeld hsl hbl2
                have hHeld := BF.out
                refine wpAnyG_pure 13 (v := ?_) (fun _ => trivial) (by simp only [List.getElem?_toArray, List.getElem?_cons_succ, List.getElem?_cons_zero]; rfl) (by kernel_rfl) (fun _ _ _ _ _ h => h) ⟨(by rfl), (by intro c h; cases h), ?_⟩ hHeld ?_
                rotate_left
                focus (intro wS hSw; (try replace hSw := HSF.out wS hSw); (try dsimp only at hSw); go_simp; (try with_reducible rfl))
                (try simp only [Act.put, List.setIfInBounds_toArray, List.set_cons_zero, List.set_cons_succ])
                refine wpAnyG_pure 14 (v := ?_) (fun _ => trivial) (by simp only [List.getElem?_toArray, List.getElem?_cons_succ, List.getElem?_cons_zero]; rfl) (by kernel_rfl) (fun _ _ _ _ _ h => h) ⟨(by rfl), (by intro c h; cases h), ?_⟩ hHeld ?_
                rotate_left
                focus (intro wS hSw; (try replace hSw := HSF.out wS hSw); (try dsimp only at hSw); go_simp; (try with_reducible rfl))
                (try simp only [Act.put, List.setIfInBounds_toArray, List.set_cons_zero, List.set_cons_succ])
                refine wpAnyG_pure 15 (v := ?_) (fun _ => trivial) (by simp only [List.getElem?_toArray, List.getElem?_cons_succ, List.getElem?_cons_zero]; rfl) (by kernel_rfl) (fun _ _ _ _ _ h => h) ⟨(by rfl), (by intro c h; cases h), ?_⟩ hHeld ?_
                rotate_left
                focus (intro wS hSw; (try replace hSw := HSF.out wS hSw); (try dsimp only at hSw); go_simp; (try with_reducible rfl))
                (try simp only [Act.put, List.setIfInBounds_toArray, List.set_cons_zero, List.set_cons_succ])
                refine wpAnyS_ready [16] (by kernel_rfl) (by simp) (AllReadyS.cons (by simp only [List.getElem?_toArray, List.getElem?_cons_succ, List.getElem?_cons_zero]; rfl) rfl (fun K hK => ?_) AllReadyS.nil)
                go_simp
                have BE := hid (BF.out.alloc BF.out.size (Obj.cells #[.slice none 0 0, .int .i64 0] 27))
                have XE := hid (Blk.new wf 27 #[.slice none 0 0, .int .i64 0])
                have hge := hid BF.out.size
                have hgs := hid (show wf.heap.size < (wf.alloc (Obj.cells #[.slice none 0 0, .int .i64 0] 27)).heap.size by simp)
                have HMS := hid (show SlR (wf.alloc (Obj.cells #[.slice none 0 0, .int .i64 0] 27)) (wf.alloc (Obj.cells #[.slice none 0 0, .int .i64 0] 27)).heap.size A5 m from (HM.out.alloc (Nat.le_refl _) (Obj.cells #[.slice none 0 0, .int .i64 0] 27)).more (by simp))
                have HSEP := hid (show ∀ ad, A5 = some ad → ad.block ≠ wf.heap.size from fun ad he => by have := HM.out.lo hmposm.out ad he; omega)
                clear HM HB2
                refine hK.out _ _ BE.out ?_
                clear hK K
                (try simp only [Act.put, List.setIfInBounds_toArray, List.set_cons_zero, List.set_cons_succ])
                clear hHeld
                have hHeld := BE.out
                generalize wf.heap.size = gE at *
                generalize (wf.alloc (Obj.cells #[.slice none 0 0, .int .i64 0] 27)) = wE at *
                refine wpAnyS_ready [17] (by kernel_rfl) (by simp) (AllReadyS.cons (by simp only [List.getElem?_toArray, List.getElem?_cons_succ, List.getElem?_cons_zero]; rfl) rfl (fun K hK => ?_) AllReadyS.nil)
                have zE := XE.out.lt; have cE0 := XE.out.cell 0; have cE1 := XE.out.cell 1; have fE := XE.out.frozen
                simp at cE0 cE1
                go_simp
                have HWF := hid ((BE.out.setCell (p := ⟨gE, 0, none⟩) hge.out (.slice A5 l.length c5)).setCell (p := ⟨gE, 1, none⟩) hge.out (.int .i64 (t2)))
                have XF := hid (show Blk ((wE.setCell ⟨gE, 0, none⟩ (.slice A5 l.length c5)).setCell ⟨gE, 1, none⟩ (.int .i64 (t2))) gE 27 #[.slice A5 l.length c5, .int .i64 (t2)] by
                  have := (XE.out.set_ 0 (.slice A5 l.length c5)).set_ 1 (.int .i64 (t2))
                  simpa using this)
                have HMF := hid (show SlR ((wE.setCell ⟨gE, 0, none⟩ (.slice A5 l.length c5)).setCell ⟨gE, 1, none⟩ (.int .i64 (t2))) ((wE.setCell ⟨gE, 0, none⟩ (.slice A5 l.length c5)).setCell ⟨gE, 1, none⟩ (.int .i64 (t2))).heap.size A5 m by
                  have := (HMS.out.farB (p := ⟨gE, 0, none⟩) HSEP.out (.slice A5 l.length c5)).farB (p := ⟨gE, 1, none⟩) HSEP.out (.int .i64 (t2))
                  simpa using this)
                refine hK.out _ _ HWF.out ?_
                (try simp only [Act.put, List.setIfInBounds_toArray, List.set_cons_zero, List.set_cons_succ])
                clear hK K hHeld cE0 cE1 fE zE XE HMS HSEP
                have hHeld := HWF.out
                generalize ((wE.setCell ⟨gE, 0, none⟩ (.slice A5 l.length c5)).setCell ⟨gE, 1, none⟩ (.int .i64 (t2))) = wG at *
                refine wpAnyG_pure 18 (v := ?_) (fun _ => trivial) (by simp only [List.getElem?_toArray, List.getElem?_cons_succ, List.getElem?_cons_zero]; rfl) (by kernel_rfl) (fun _ _ _ _ _ h => h) ⟨(by rfl), (by intro c h; cases h), ?_⟩ hHeld ?_
                rotate_left
                focus (intro wS hSw; (try replace hSw := HSF.out wS hSw); (try dsimp only at hSw); go_simp; (try with_reducible rfl))
                (try simp only [Act.put, List.setIfInBounds_toArray, List.set_cons_zero, List.set_cons_succ])
                refine wpAnyS_done (by kernel_rfl) ?_
                clear hHeld
                go_wp2_with fail
                go_meet
                exact ⟨gE, A5, c5, rfl, rfl, XF.out, HMF.out, HWF.out⟩
              · -- the box first
                go_simp
                have BE := hid (BD.out.alloc BD.out.size (Obj.cells #[.slice none 0 0, .int .i64 0] 27))
                have XE := hid (Blk.new wd 27 #[.slice none 0 0, .int .i64 0])
                have hge := hid BD.out.size
                have hgs := hid (show wd.heap.size < (wd.alloc (Obj.cells #[.slice none 0 0, .int .i64 0] 27)).heap.size by simp)
                refine hK.out _ _ BE.out ?_
                clear hK K
                (try simp only [Act.put, List.setIfInBounds_toArray, List.set_cons_zero, List.set_cons_succ])
                clear hHeld
                have hHeld := BE.out
                generalize wd.heap.size = gE at *
                generalize (wd.alloc (Obj.cells #[.slice none 0 0, .int .i64 0] 27)) = wE at *
                refine wpAnyS_ready [12] (by kernel_rfl) (by simp) (AllReadyS.cons (by simp only [List.getElem?_toArray, List.getElem?_cons_succ, List.getElem?_cons_zero]; rfl) rfl (fun K hK => ?_) AllReadyS.nil)
                refine callV (R := fun u w' => ∃ (A5 : Option Addr) (c5 : Nat), u = .tuple #[.agg #[.slice A5 l.length c5, .int .i64 (t2)], .int .i64 0] ∧ SlR w' w'.heap.size A5 m ∧ Below wE.heap.size wE w') (by intro c h; cases h) (by go_simp; try with_reducible rfl) ((HDo.out wE BE.out).mono (fun e w' ⟨A', c', he, hs, hb⟩ => ⟨_, he, A', c', rfl, hs, hb⟩)) ?_
                rintro u wf ⟨A5, c5, rfl, hsl, hbl2⟩
                have BF := hid (BE.out.trans (hbl2.mono BE.out.size))
                have HM := hid hsl
                have HB2 := hid hbl2
                refine hK.out _ _ BF.out ?_
                (try simp only [Act.put, List.setIfInBounds_toArray, List.set_cons_zero, List.set_cons_succ])
                clear hK K hHeld hsl hbl2
                have hHeld := BF.out
                refine wpAnyG_pure 13 (v := ?_) (fun _ => trivial) (by simp only [List.getElem?_toArray, List.getElem?_cons_succ, List.getElem?_cons_zero]; rfl) (by kernel_rfl) (fun _ _ _ _ _ h => h) ⟨(by rfl), (by intro c h; cases h), ?_⟩ hHeld ?_
                rotate_left
                focus (intro wS hSw; (try replace hSw := HSF.out wS hSw); (try dsimp only at hSw); go_simp; (try with_reducible rfl))
                (try simp only [Act.put, List.setIfInBounds_toArray, List.set_cons_zero, List.set_cons_succ])
                refine wpAnyG_pure 14 (v := ?_) (fun _ => trivial) (by simp only [List.getElem?_toArray, List.getElem?_cons_succ, List.getElem?_cons_zero]; rfl) (by kernel_rfl) (fun _ _ _ _ _ h => h) ⟨(by rfl), (by intro c h; cases h), ?_⟩ hHeld ?_
                rotate_left
                focus (intro wS hSw; (try replace hSw := HSF.out wS hSw); (try dsimp only at hSw); go_simp; (try with_reducible rfl))
                (try simp only [Act.put, List.setIfInBounds_toArray, List.set_cons_zero, List.set_cons_succ])
                refine wpAnyG_pure 15 (v := ?_) (fun _ => trivial) (by simp only [List.getElem?_toArray, List.getElem?_cons_succ, List.getElem?_cons_zero]; rfl) (by kernel_rfl) (fun _ _ _ _ _ h => h) ⟨(by rfl), (by intro c h; cases h), ?_⟩ hHeld ?_
                rotate_left
                focus (intro wS hSw; (try replace hSw := HSF.out wS hSw); (try dsimp only at hSw); go_simp; (try with_reducible rfl))
                (try simp only [Act.put, List.setIfInBounds_toArray, List.set_cons_zero, List.set_cons_succ])
                have XE2 := hid (XE.out.below HB2.out XE.out.lt)
                have HSEP := hid (HM.out.sepB hmposm.out XE2.out)
                have HMS := HM
                clear XE HM HB2
                have XE := XE2
                clear XE2
                refine wpAnyS_ready [17] (by kernel_rfl) (by simp) (AllReadyS.cons (by simp only [List.getElem?_toArray, List.getElem?_cons_succ, List.getElem?_cons_zero]; rfl) rfl (fun K hK => ?_) AllReadyS.nil)
                have zE := XE.out.lt; have cE0 := XE.out.cell 0; have cE1 := XE.out.cell 1; have fE := XE.out.frozen
                simp at cE0 cE1
                go_simp
                have HWF := hid ((BF.out.setCell (p := ⟨gE, 0, none⟩) hge.out (.slice A5 l.length c5)).setCell (p := ⟨gE, 1, none⟩) hge.out (.int .i64 (t2)))
                have XF := hid (show Blk ((wf.setCell ⟨gE, 0, none⟩ (.slice A5 l.length c5)).setCell ⟨gE, 1, none⟩ (.int .i64 (t2))) gE 27 #[.slice A5 l.length c5, .int .i64 (t2)] by
                  have := (XE.out.set_ 0 (.slice A5 l.length c5)).set_ 1 (.int .i64 (t2))
                  simpa using this)
                have HMF := hid (show SlR ((wf.setCell ⟨gE, 0, none⟩ (.slice A5 l.length c5)).setCell ⟨gE, 1, none⟩ (.int .i64 (t2))) ((wf.setCell ⟨gE, 0, none⟩ (.slice A5 l.length c5)).setCell ⟨gE, 1, none⟩ (.int .i64 (t2))).heap.size A5 m by
                  have := (HMS.out.farB (p := ⟨gE, 0, none⟩) HSEP.out (.slice A5 l.length c5)).farB (p := ⟨gE, 1, none⟩) HSEP.out (.int .i64 (t2))
                  simpa using this)
                refine hK.out _ _ HWF.out ?_
                (try simp only [Act.put, List.setIfInBounds_toArray, List.set_cons_zero, List.set_cons_succ])
                clear hK K hHeld cE0 cE1 fE zE XE HMS HSEP
                have hHeld := HWF.out
                generalize ((wf.setCell ⟨gE, 0, none⟩ (.slice A5 l.length c5)).setCell ⟨gE, 1, none⟩ (.int .i64 (t2))) = wG at *
                refine wpAnyG_pure 18 (v := ?_) (fun _ => trivial) (by simp only [List.getElem?_toArray, List.getElem?_cons_succ, List.getElem?_cons_zero]; rfl) (by kernel_rfl) (fun _ _ _ _ _ h => h) ⟨(by rfl), (by intro c h; cases h), ?_⟩ hHeld ?_
                rotate_left
                focus (intro wS hSw; (try replace hSw := HSF.out wS hSw); (try dsimp only at hSw); go_simp; (try with_reducible rfl))
                (try simp only [Act.put, List.setIfInBounds_toArray, List.set_cons_zero, List.set_cons_succ])
                refine wpAnyS_done (by kernel_rfl) ?_
                clear hHeld
                go_wp2_with fail
                go_meet
                exact ⟨gE, A5, c5, rfl, rfl, XF.out, HMF.out, HWF.out⟩
          case rest =>
            obtain ⟨g, A5, c5, rfl, rfl, hX5, hS5, hB⟩ := hcut
            obtain ⟨wv, hwv⟩ : ∃ wv, wv = wc := ⟨_, rfl⟩
            subst hwv
            have X5 := hid hX5
            have S5 := hid hS5
            have B1c := hid (B1z.out.trans (hB.mono B1z.out.size))
            have B5c := hid (B5z.out.trans (hB.mono B5z.out.size))
            have s0c := (bcell hB _ _ zS).trans s0
            have s1c := (bcell hB _ _ zS).trans s1
            have zSc : bS < wv.heap.size := by have := hB.size; omega
            clear hX5 hS5 hB HSF HDo k0 k1 k2 k3 k4 l0 l1 xz lz s0 s1 zS
            obtain ⟨⟨k0, k1, k2, k3, k4⟩, l0, l1, xz, lz⟩ := HX.out wv B1c.out
            have m0 := X5.out.cell 0; have m1 := X5.out.cell 1; have mz := X5.out.lt
            simp at m0 m1
            have HSH := hid (fun (W' : World) (hW : Below wv.heap.size wv W') => shiftsT_any W H D Ak Ao ck co kind out Ar A5 cr c5 r m t2 W' HRF.out (HK.out W' (B1c.out.trans (hW.mono B1c.out.size))) (HO.out W' (B1c.out.trans (hW.mono B1c.out.size))) (HR.out W' (B1c.out.trans (hW.mono B1c.out.size))) ((S5.out.below hW).more hW.size) HPW.out (HRL.out.trans hml.out.symm) (by rw [hml.out]; exact hl24))
            rw [hml.out] at HSH
            have HSF := hid (fun (wq : World) (hq : Below wv.heap.size wv wq) => And.intro ((bcell hq _ _ zSc).trans s0c) (And.intro ((bcell hq _ _ zSc).trans s1c) (And.intro ((bcell hq _ _ mz).trans m0) (And.intro ((bcell hq _ _ mz).trans m1) (And.intro ((bcell hq _ _ xz).trans k0) (And.intro ((bcell hq _ _ xz).trans k1) (And.intro ((bcell hq _ _ xz).trans k2) (And.intro ((bcell hq _ _ xz).trans k3) ((bcell hq _ _ xz).trans k4)))))))))
            clear k0 k1 k2 k3 k4 l0 l1 m0 m1 s0c s1c HP
            have BD := hid ((Below.refl wv.heap.size wv).drew)
            go_upto_region 26 with fail
            refine wpIn_wide.1 (wpIn_region_S (n := 0) (fun wq => Below wv.heap.size wv wq) [] (by kernel_rfl) BD.out (fun hHeld => ?_))
            generalize wv.drew = wd at *
            refine wpAnyG_pure 0 (v := ?_) (fun _ => trivial) (by simp only [List.getElem?_toArray, List.getElem?_cons_succ, List.getElem?_cons_zero]; rfl) (by kernel_rfl) (fun _ _ _ _ _ h => h) ⟨(by rfl), (by intro c h; cases h), ?_⟩ hHeld ?_
            rotate_left
            focus (intro wS hSw; (try replace hSw := HSF.out wS hSw); (try dsimp only at hSw); go_simp; (try with_reducible rfl))
            (try simp only [Act.put, List.setIfInBounds_toArray, List.set_cons_zero, List.set_cons_succ])
            refine wpAnyG_pure 1 (v := ?_) (fun _ => trivial) (by simp only [List.getElem?_toArray, List.getElem?_cons_succ, List.getElem?_cons_zero]; rfl) (by kernel_rfl) (fun _ _ _ _ _ h => h) ⟨(by rfl), (by intro c h; cases h), ?_⟩ hHeld ?_
            rotate_left
            focus (intro wS hSw; (try replace hSw := HSF.out wS hSw); (try dsimp only at hSw); go_simp; (try with_reducible rfl))
            (try simp only [Act.put, List.setIfInBounds_toArray, List.set_cons_zero, List.set_cons_succ])
            refine wpAnyG_pure 2 (v := ?_) (fun _ => trivial) (by simp only [List.getElem?_toArray, List.getElem?_cons_succ, List.getElem?_cons_zero]; rfl) (by kernel_rfl) (fun _ _ _ _ _ h => h) ⟨(by rfl), (by intro c h; cases h), ?_⟩ hHeld ?_
            rotate_left
            focus (intro wS hSw; (try replace hSw := HSF.out wS hSw); (try dsimp only at hSw); go_simp; (try with_reducible rfl))
            (try simp only [Act.put, List.setIfInBounds_toArray, List.set_cons_zero, List.set_cons_succ])
            refine wpAnyG_take 3 (v := ?_) (fun _ => trivial) (by simp only [List.getElem?_toArray, List.getElem?_cons_succ, List.getElem?_cons_zero]; rfl) (by kernel_rfl) (fun _ _ _ _ _ h => h) ⟨(by rfl), (by intro c h; cases h), ?_⟩ hHeld ?_
            rotate_left
            focus (intro wS hSw; (try replace hSw := HSF.out wS hSw); (try dsimp only at hSw); go_simp; (try with_reducible rfl))
            (try simp only [Act.put, List.setIfInBounds_toArray, List.set_cons_zero, List.set_cons_succ])
            refine wpAnyG_pure 4 (v := ?_) (fun _ => trivial) (by simp only [List.getElem?_toArray, List.getElem?_cons_succ, List.getElem?_cons_zero]; rfl) (by kernel_rfl) (fun _ _ _ _ _ h => h) ⟨(by rfl), (by intro c h; cases h), ?_⟩ hHeld ?_
            rotate_left
            focus (intro wS hSw; (try replace hSw := HSF.out wS hSw); (try dsimp only at hSw); go_simp; (try with_reducible rfl))
            (try simp only [Act.put, List.setIfInBounds_toArray, List.set_cons_zero, List.set_cons_succ])
            refine wpAnyG_take 5 (v := ?_) (fun _ => trivial) (by simp only [List.getElem?_toArray, List.getElem?_cons_succ, List.getElem?_cons_zero]; rfl) (by kernel_rfl) (fun _ _ _ _ _ h => h) ⟨(by rfl), (by intro c h; cases h), ?_⟩ hHeld ?_
            rotate_left
            focus (intro wS hSw; (try replace hSw := HSF.out wS hSw); (try dsimp only at hSw); go_simp; (try with_reducible rfl))
            (try simp only [Act.put, List.setIfInBounds_toArray, List.set_cons_zero, List.set_cons_succ])
            refine wpAnyG_pure 7 (v := ?_) (fun _ => trivial) (by simp only [List.getElem?_toArray, List.getElem?_cons_succ, List.getElem?_cons_zero]; rfl) (by kernel_rfl) (fun _ _ _ _ _ h => h) ⟨(by rfl), (by intro c h; cases h), ?_⟩ hHeld ?_
            rotate_left
            focus (intro wS hSw; (try replace hSw := HSF.out wS hSw); (try dsimp only at hSw); go_simp; (try with_reducible rfl))
            (try simp only [Act.put, List.setIfInBounds_toArray, List.set_cons_zero, List.set_cons_succ])
            refine wpAnyG_pure 8 (v := ?_) (fun _ => trivial) (by simp only [List.getElem?_toArray, List.getElem?_cons_succ, List.getElem?_cons_zero]; rfl) (by kernel_rfl) (fun _ _ _ _ _ h => h) ⟨(by rfl), (by intro c h; cases h), ?_⟩ hHeld ?_
            rotate_left
            focus (intro wS hSw; (try replace hSw := HSF.out wS hSw); (try dsimp only at hSw); go_simp; (try with_reducible rfl))
            (try simp only [Act.put, List.setIfInBounds_toArray, List.set_cons_zero, List.set_cons_succ])
            refine wpAnyG_pure 9 (v := ?_) (fun _ => trivial) (by simp only [List.getElem?_toArray, List.getElem?_cons_succ, List.getElem?_cons_zero]; rfl) (by kernel_rfl) (fun _ _ _ _ _ h => h) ⟨(by rfl), (by intro c h; cases h), ?_⟩ hHeld ?_
            rotate_left
            focus (intro wS hSw; (try replace hSw := HSF.out wS hSw); (try dsimp only at hSw); go_simp; (try with_reducible rfl))
            (try simp only [Act.put, List.setIfInBounds_toArray, List.set_cons_zero, List.set_cons_succ])
            refine wpAnyG_take 10 (v := ?_) (fun _ => trivial) (by simp only [List.getElem?_toArray, List.getElem?_cons_succ, List.getElem?_cons_zero]; rfl) (by kernel_rfl) (fun _ _ _ _ _ h => h) ⟨(by rfl), (by intro c h; cases h), ?_⟩ hHeld ?_
            rotate_left
            focus (intro wS hSw; (try replace hSw := HSF.out wS hSw); (try dsimp only at hSw); go_simp; (try with_reducible rfl))
            (try simp only [Act.put, List.setIfInBounds_toArray, List.set_cons_zero, List.set_cons_succ])
            refine wpAnyS_ready [6] (by kernel_rfl) (by simp) (AllReadyS.consG (by simp only [List.getElem?_toArray, List.getElem?_cons_succ, List.getElem?_cons_zero]; rfl) (by rfl) (fun K hK => ?_) AllReadyS.nil)
            refine callV (R := fun u w' => ∃ (A6 : Option Addr) (c6 : Nat) (s6 : List Sh), u = .slice A6 s6.length c6 ∧ s6.length ≤ 144 ∧ (∀ x, x ∈ s6 ↔ x ∈ allS W H D kind out r m true r.length) ∧ SlR w' w'.heap.size A6 s6 ∧ Below wd.heap.size wd w') (by intro c h; cases h) (by go_simp; try with_reducible rfl) ((HSH.out wd BD.out).mono (fun e w' ⟨A', c', s', he, h1, h2, hs, hb⟩ => ⟨_, he, A', c', s', rfl, h1, h2, hs, hb⟩)) ?_
            rintro u w9 ⟨A6, c6, s6, rfl, hs6, hm6, hsl6, hb9⟩
            have B9 := hid (BD.out.trans (hb9.mono BD.out.size))
            have hhas := hid (hasN_iff.2 ((hm6 _).2 hmO.out))
            have HHS := hid (has_any A6 c6 s6 ((a : Int), (b : Int)) w9 (by unfold maxLen; omega) hsl6)
            rw [hhas.out] at HHS
            refine hK.out _ _ B9.out ?_
            (try simp only [Act.put, List.setIfInBounds_toArray, List.set_cons_zero, List.set_cons_succ])
            clear hK K hHeld hsl6 hb9 hm6 hhas
            have hHeld := B9.out
            refine wpAnyS_ready [11] (by kernel_rfl) (by simp) (AllReadyS.consG (by simp only [List.getElem?_toArray, List.getElem?_cons_succ, List.getElem?_cons_zero]; rfl) (by rfl) (fun K hK => ?_) AllReadyS.nil)
            refine callS (by intro c h; cases h) (by go_simp; try with_reducible rfl) (HHS.out) ?_
            intro wt hBq
            have B10 := hid (B9.out.trans (hBq.mono B9.out.size))
            refine hK.out _ _ B10.out ?_
            (try simp only [Act.put, List.setIfInBounds_toArray, List.set_cons_zero, List.set_cons_succ])
            clear hK K hBq
            clear hHeld
            have hHeld := B10.out
            refine wpAnyG_pure 12 (v := ?_) (fun _ => trivial) (by simp only [List.getElem?_toArray, List.getElem?_cons_succ, List.getElem?_cons_zero]; rfl) (by kernel_rfl) (fun _ _ _ _ _ h => h) ⟨(by rfl), (by intro c h; cases h), ?_⟩ hHeld ?_
            rotate_left
            focus (intro wS hSw; (try replace hSw := HSF.out wS hSw); (try dsimp only at hSw); go_simp; (try with_reducible rfl))
            (try simp only [Act.put, List.setIfInBounds_toArray, List.set_cons_zero, List.set_cons_succ])
            refine wpAnyG_pure 13 (v := ?_) (fun _ => trivial) (by simp only [List.getElem?_toArray, List.getElem?_cons_succ, List.getElem?_cons_zero]; rfl) (by kernel_rfl) (fun _ _ _ _ _ h => h) ⟨(by rfl), (by intro c h; cases h), ?_⟩ hHeld ?_
            rotate_left
            focus (intro wS hSw; (try replace hSw := HSF.out wS hSw); (try dsimp only at hSw); go_simp; (try with_reducible rfl))
            (try simp only [Act.put, List.setIfInBounds_toArray, List.set_cons_zero, List.set_cons_succ])
            refine wpAnyS_done (by kernel_rfl) ?_
            clear hHeld HSH HHS B9 BD
            have HSF2 := hid (fun (wq : World) (hq : Below wt.heap.size wt wq) => HSF.out wq (B10.out.trans (hq.mono B10.out.size)))
            clear HSF
            have HSF := HSF2
            clear HSF2
            have B1t := hid (B1c.out.trans (B10.out.mono B1c.out.size))
            have B5t := hid (B5c.out.trans (B10.out.mono B5c.out.size))
            have S5t := hid ((S5.out.below B10.out).more B10.out.size)
            clear B10 B1c B5c S5 X5 xz lz zSc mz
            have hmai := hid (show a < m.length by rw [hml.out]; exact hal)
            have hmbi := hid (show b < m.length by rw [hml.out]; exact hbl)
            have hmaV := hid (show m[a]'hmai.out = true by have := hma.out; rw [List.getElem?_eq_getElem hmai.out] at this; injection this)
            have hmbV := hid (show m[b]'hmbi.out = false by have := hmb.out; rw [List.getElem?_eq_getElem hmbi.out] at this; injection this)
            have HD2 := hid (fun (W' : World) (hW : Below wt.heap.size wt W') => (do_any A5 c5 m t2 a b W' (by rw [hml.out]; exact hl24) ((S5t.out.below hW).more hW.size) hmai.out hmbi.out hmaV.out hmbV.out).mono (R' := fun e w' => ∃ (A' : Option Addr) (c' : Nat), e = Ending.returned (.tuple #[.agg #[.slice A' l.length c', .int .i64 t], .int .i64 0]) ∧ SlR w' w'.heap.size A' l ∧ Below W'.heap.size W' w') (fun e w' ⟨A', c', he, _, _, hs, hb⟩ => ⟨A', c', by rw [he, hbackT.out, hml.out], by rw [← hback.out]; exact hs, hb⟩))
            rw [hml.out] at HD2
            clear hmaV hmbV hma hmb hback hbackT hmR hmO
            go_upto_region 28 with fail
            go_cut [18, 19] (fun bv ev wx => ∃ (g : Nat) (A5 : Option Addr) (c5 : Nat), bv = .pointer (some ⟨g, 0, none⟩) ∧ ev = .int .i64 0 ∧ Blk wx g 27 #[.slice A5 l.length c5, .int .i64 t] ∧ SlR wx wx.heap.size A5 l ∧ Below wt.heap.size wt wx)
            case first =>
              as_aux_lemma =>
                have BD := hid ((Below.refl wt.heap.size wt).drew)
                refine wpIn_wide.1 (wpIn_region_S (n := 0) (fun wq => Below wt.heap.size wt wq) [] (by kernel_rfl) BD.out (fun hHeld => ?_))
                generalize wt.drew = wd at *
                refine wpAnyG_take 0 (v := ?_) (fun _ => trivial) (by simp only [List.getElem?_toArray, List.getElem?_cons_succ, List.getElem?_cons_zero]; rfl) (by kernel_rfl) (fun _ _ _ _ _ h => h) ⟨(by rfl), (by intro c h; cases h), ?_⟩ hHeld ?_
                rotate_left
                focus (intro wS hSw; (try replace hSw := HSF.out wS hSw); (try dsimp only at hSw); go_simp; (try with_reducible rfl))
                (try simp only [Act.put, List.setIfInBounds_toArray, List.set_cons_zero, List.set_cons_succ])
                refine wpAnyG_pure 1 (v := ?_) (fun _ => trivial) (by simp only [List.getElem?_toArray, List.getElem?_cons_succ, List.getElem?_cons_zero]; rfl) (by kernel_rfl) (fun _ _ _ _ _ h => h) ⟨(by rfl), (by intro c h; cases h), ?_⟩ hHeld ?_
                rotate_left
                focus (intro wS hSw; (try replace hSw := HSF.out wS hSw); (try dsimp only at hSw); go_simp; (try with_reducible rfl))
                (try simp only [Act.put, List.setIfInBounds_toArray, List.set_cons_zero, List.set_cons_succ])
                refine wpAnyG_pure 2 (v := ?_) (fun _ => trivial) (by simp only [List.getElem?_toArray, List.getElem?_cons_succ, List.getElem?_cons_zero]; rfl) (by kernel_rfl) (fun _ _ _ _ _ h => h) ⟨(by rfl), (by intro c h; cases h), ?_⟩ hHeld ?_
                rotate_left
                focus (intro wS hSw; (try replace hSw := HSF.out wS hSw); (try dsimp only at hSw); go_simp; (try with_reducible rfl))
                (try simp only [Act.put, List.setIfInBounds_toArray, List.set_cons_zero, List.set_cons_succ])
                refine wpAnyG_pure 3 (v := ?_) (fun _ => trivial) (by simp only [List.getElem?_toArray, List.getElem?_cons_succ, List.getElem?_cons_zero]; rfl) (by kernel_rfl) (fun _ _ _ _ _ h => h) ⟨(by rfl), (by intro c h; cases h), ?_⟩ hHeld ?_
                rotate_left
                focus (intro wS hSw; (try replace hSw := HSF.out wS hSw); (try dsimp only at hSw); go_simp; (try with_reducible rfl))
                (try simp only [Act.put, List.setIfInBounds_toArray, List.set_cons_zero, List.set_cons_succ])
                refine wpAnyG_take 4 (v := ?_) (fun _ => trivial) (by simp only [List.getElem?_toArray, List.getElem?_cons_succ, List.getElem?_cons_zero]; rfl) (by kernel_rfl) (fun _ _ _ _ _ h => h) ⟨(by rfl), (by intro c h; cases h), ?_⟩ hHeld ?_
                rotate_left
                focus (intro wS hSw; (try replace hSw := HSF.out wS hSw); (try dsimp only at hSw); go_simp; (try with_reducible rfl))
                (try simp only [Act.put, List.setIfInBounds_toArray, List.set_cons_zero, List.set_cons_succ])
                refine wpAnyS_ready [5, 9] (by kernel_rfl) (by simp) (AllReadyS.cons (by simp only [List.getElem?_toArray, List.getElem?_cons_succ, List.getElem?_cons_zero]; rfl) rfl (fun K hK => ?_) (AllReadyS.cons (by simp only [List.getElem?_toArray, List.getElem?_cons_succ, List.getElem?_cons_zero]; rfl) rfl (fun K hK => ?_) AllReadyS.nil))
                · -- the call first
                  refine callV (R := fun u w' => ∃ (A5 : Option Addr) (c5 : Nat), u = .tuple #[.agg #[.slice A5 l.length c5, .int .i64 (t)], .int .i64 0] ∧ SlR w' w'.heap.size A5 l ∧ Below wd.heap.size wd w') (by intro c h; cases h) (by go_simp; try with_reducible rfl) ((HD2.out wd BD.out).mono (fun e w' ⟨A', c', he, hs, hb⟩ => ⟨_, he, A', c', rfl, hs, hb⟩)) ?_
                  rintro u wf ⟨A5, c5, rfl, hsl, hbl2⟩
                  have BF := hid (BD.out.trans (hbl2.mono BD.out.size))
                  have HM := hid hsl
                  have HB2 := hid hbl2
                  refine hK.out _ _ BF.out ?_
                  (try simp only [Act.put, List.setIfInBounds_toArray, List.set_cons_zero, List.set_cons_succ])
                  clear hK K hHeld hsl hbl2
                  have hHeld := BF.out
                  refine wpAnyG_pure 6 (v := ?_) (fun _ => trivial) (by simp only [List.getElem?_toArray, List.getElem?_cons_succ, List.getElem?_cons_zero]; rfl) (by kernel_rfl) (fun _ _ _ _ _ h => h) ⟨(by rfl), (by intro c h; cases h), ?_⟩ hHeld ?_
                  rotate_left
                  focus (intro wS hSw; (try replace hSw := HSF.out wS hSw); (try dsimp only at hSw); go_simp; (try with_reducible rfl))
                  (try simp only [Act.put, List.setIfInBounds_toArray, List.set_cons_zero, List.set_cons_succ])
                  refine wpAnyG_pure 7 (v := ?_) (fun _ => trivial) (by simp only [List.getElem?_toArray, List.getElem?_cons_succ, List.getElem?_cons_zero]; rfl) (by kernel_rfl) (fun _ _ _ _ _ h => h) ⟨(by rfl), (by intro c h; cases h), ?_⟩ hHeld ?_
                  rotate_left
                  focus (intro wS hSw; (try replace hSw := HSF.out wS hSw); (try dsimp only at hSw); go_simp; (try with_reducible rfl))
                  (try simp only [Act.put, List.setIfInBounds_toArray, List.set_cons_zero, List.set_cons_succ])
                  refine wpAnyG_pure 8 (v := ?_) (fun _ => trivial) (by simp only [List.getElem?_toArray, List.getElem?_cons_succ, List.getElem?_cons_zero]; rfl) (by kernel_rfl) (fun _ _ _ _ _ h => h) ⟨(by rfl), (by intro c h; cases h), ?_⟩ hHeld ?_
                  rotate_left
                  focus (intro wS hSw; (try replace hSw := HSF.out wS hSw); (try dsimp only at hSw); go_simp; (try with_reducible rfl))
                  (try simp only [Act.put, List.setIfInBounds_toArray, List.set_cons_zero, List.set_cons_succ])
                  refine wpAnyS_ready [9] (by kernel_rfl) (by simp) (AllReadyS.cons (by simp only [List.getElem?_toArray, List.getElem?_cons_succ, List.getElem?_cons_zero]; rfl) rfl (fun K hK => ?_) AllReadyS.nil)
                  go_simp
                  have BE := hid (BF.out.alloc BF.out.size (Obj.cells #[.slice none 0 0, .int .i64 0] 27))
                  have XE := hid (Blk.new wf 27 #[.slice none 0 0, .int .i64 0])
                  have hge := hid BF.out.size
                  have hgs := hid (show wf.heap.size < (wf.alloc (Obj.cells #[.slice none 0 0, .int .i64 0] 27)).heap.size by simp)
                  have HMS := hid (show SlR (wf.alloc (Obj.cells #[.slice none 0 0, .int .i64 0] 27)) (wf.alloc (Obj.cells #[.slice none 0 0, .int .i64 0] 27)).heap.size A5 l from (HM.out.alloc (Nat.le_refl _) (Obj.cells #[.slice none 0 0, .int .i64 0] 27)).more (by simp))
                  have HSEP := hid (show ∀ ad, A5 = some ad → ad.block ≠ wf.heap.size from fun ad he => by have := HM.out.lo hmpos.out ad he; omega)
                  clear HM HB2
                  refine hK.out _ _ BE.out ?_
                  clear hK K
                  (try simp only [Act.put, List.setIfInBounds_toArray, List.set_cons_zero, List.set_cons_succ])
                  clear hHeld
                  have hHeld := BE.out
                  generalize wf.heap.size = gE at *
                  generalize (wf.alloc (Obj.cells #[.slice none 0 0, .int .i64 0] 27)) = wE at *
                  refine wpAnyS_ready [10] (by kernel_rfl) (by simp) (AllReadyS.cons (by simp only [List.getElem?_toArray, List.getElem?_cons_succ, List.getElem?_cons_zero]; rfl) rfl (fun K hK => ?_) AllReadyS.nil)
                  have zE := XE.out.lt; have cE0 := XE.out.cell 0; have cE1 := XE.out.cell 1; have fE := XE.out.frozen
                  simp at cE0 cE1
                  go_simp
                  have HWF := hid ((BE.out.setCell (p := ⟨gE, 0, none⟩) hge.out (.slice A5 l.length c5)).setCell (p := ⟨gE, 1, none⟩) hge.out (.int .i64 (t)))
                  have XF := hid (show Blk ((wE.setCell ⟨gE, 0, none⟩ (.slice A5 l.length c5)).setCell ⟨gE, 1, none⟩ (.int .i64 (t))) gE 27 #[.slice A5 l.length c5, .int .i64 (t)] by
                    have := (XE.out.set_ 0 (.slice A5 l.length c5)).set_ 1 (.int .i64 (t))
                    simpa using this)
                  have HMF := hid (show SlR ((wE.setCell ⟨gE, 0, none⟩ (.slice A5 l.length c5)).setCell ⟨gE, 1, none⟩ (.int .i64 (t))) ((wE.setCell ⟨gE, 0, none⟩ (.slice A5 l.length c5)).setCell ⟨gE, 1, none⟩ (.int .i64 (t))).heap.size A5 l by
                    have := (HMS.out.farB (p := ⟨gE, 0, none⟩) HSEP.out (.slice A5 l.length c5)).farB (p := ⟨gE, 1, none⟩) HSEP.out (.int .i64 (t))
                    simpa using this)
                  refine hK.out _ _ HWF.out ?_
                  (try simp only [Act.put, List.setIfInBounds_toArray, List.set_cons_zero, List.set_cons_succ])
                  clear hK K hHeld cE0 cE1 fE zE XE HMS HSEP
                  have hHeld := HWF.out
                  generalize ((wE.setCell ⟨gE, 0, none⟩ (.slice A5 l.length c5)).setCell ⟨gE, 1, none⟩ (.int .i64 (t))) = wG at *
                  refine wpAnyG_pure 11 (v := ?_) (fun _ => trivial) (by simp only [List.getElem?_toArray, List.getElem?_cons_succ, List.getElem?_cons_zero]; rfl) (by kernel_rfl) (fun _ _ _ _ _ h => h) ⟨(by rfl), (by intro c h; cases h), ?_⟩ hHeld ?_
                  rotate_left
                  focus (intro wS hSw; (try replace hSw := HSF.out wS hSw); (try dsimp only at hSw); go_simp; (try with_reducible rfl))
                  (try simp only [Act.put, List.setIfInBounds_toArray, List.set_cons_zero, List.set_cons_succ])
                  refine wpAnyS_done (by kernel_rfl) ?_
                  clear hHeld
                  go_wp2_with fail
                  go_meet
                  exact ⟨gE, A5, c5, rfl, rfl, XF.out, HMF.out, HWF.out⟩
                · -- the box first
                  go_simp
                  have BE := hid (BD.out.alloc BD.out.size (Obj.cells #[.slice none 0 0, .int .i64 0] 27))
                  have XE := hid (Blk.new wd 27 #[.slice none 0 0, .int .i64 0])
                  have hge := hid BD.out.size
                  have hgs := hid (show wd.heap.size < (wd.alloc (Obj.cells #[.slice none 0 0, .int .i64 0] 27)).heap.size by simp)
                  refine hK.out _ _ BE.out ?_
                  clear hK K
                  (try simp only [Act.put, List.setIfInBounds_toArray, List.set_cons_zero, List.set_cons_succ])
                  clear hHeld
                  have hHeld := BE.out
                  generalize wd.heap.size = gE at *
                  generalize (wd.alloc (Obj.cells #[.slice none 0 0, .int .i64 0] 27)) = wE at *
                  refine wpAnyS_ready [5] (by kernel_rfl) (by simp) (AllReadyS.cons (by simp only [List.getElem?_toArray, List.getElem?_cons_succ, List.getElem?_cons_zero]; rfl) rfl (fun K hK => ?_) AllReadyS.nil)
                  refine callV (R := fun u w' => ∃ (A5 : Option Addr) (c5 : Nat), u = .tuple #[.agg #[.slice A5 l.length c5, .int .i64 (t)], .int .i64 0] ∧ SlR w' w'.heap.size A5 l ∧ Below wE.heap.size wE w') (by intro c h; cases h) (by go_simp; try with_reducible rfl) ((HD2.out wE BE.out).mono (fun e w' ⟨A', c', he, hs, hb⟩ => ⟨_, he, A', c', rfl, hs, hb⟩)) ?_
                  rintro u wf ⟨A5, c5, rfl, hsl, hbl2⟩
                  have BF := hid (BE.out.trans (hbl2.mono BE.out.size))
                  have HM := hid hsl
                  have HB2 := hid hbl2
                  refine hK.out _ _ BF.out ?_
                  (try simp only [Act.put, List.setIfInBounds_toArray, List.set_cons_zero, List.set_cons_succ])
                  clear hK K hHeld hsl hbl2
                  have hHeld := BF.out
                  refine wpAnyG_pure 6 (v := ?_) (fun _ => trivial) (by simp only [List.getElem?_toArray, List.getElem?_cons_succ, List.getElem?_cons_zero]; rfl) (by kernel_rfl) (fun _ _ _ _ _ h => h) ⟨(by rfl), (by intro c h; cases h), ?_⟩ hHeld ?_
                  rotate_left
                  focus (intro wS hSw; (try replace hSw := HSF.out wS hSw); (try dsimp only at hSw); go_simp; (try with_reducible rfl))
                  (try simp only [Act.put, List.setIfInBounds_toArray, List.set_cons_zero, List.set_cons_succ])
                  refine wpAnyG_pure 7 (v := ?_) (fun _ => trivial) (by simp only [List.getElem?_toArray, List.getElem?_cons_succ, List.getElem?_cons_zero]; rfl) (by kernel_rfl) (fun _ _ _ _ _ h => h) ⟨(by rfl), (by intro c h; cases h), ?_⟩ hHeld ?_
                  rotate_left
                  focus (intro wS hSw; (try replace hSw := HSF.out wS hSw); (try dsimp only at hSw); go_simp; (try with_reducible rfl))
                  (try simp only [Act.put, List.setIfInBounds_toArray, List.set_cons_zero, List.set_cons_succ])
                  refine wpAnyG_pure 8 (v := ?_) (fun _ => trivial) (by simp only [List.getElem?_toArray, List.getElem?_cons_succ, List.getElem?_cons_zero]; rfl) (by kernel_rfl) (fun _ _ _ _ _ h => h) ⟨(by rfl), (by intro c h; cases h), ?_⟩ hHeld ?_
                  rotate_left
                  focus (intro wS hSw; (try replace hSw := HSF.out wS hSw); (try dsimp only at hSw); go_simp; (try with_reducible rfl))
                  (try simp only [Act.put, List.setIfInBounds_toArray, List.set_cons_zero, List.set_cons_succ])
                  have XE2 := hid (XE.out.below HB2.out XE.out.lt)
                  have HSEP := hid (HM.out.sepB hmpos.out XE2.out)
                  have HMS := HM
                  clear XE HM HB2
                  have XE := XE2
                  clear XE2
                  refine wpAnyS_ready [10] (by kernel_rfl) (by simp) (AllReadyS.cons (by simp only [List.getElem?_toArray, List.getElem?_cons_succ, List.getElem?_cons_zero]; rfl) rfl (fun K hK => ?_) AllReadyS.nil)
                  have zE := XE.out.lt; have cE0 := XE.out.cell 0; have cE1 := XE.out.cell 1; have fE := XE.out.frozen
                  simp at cE0 cE1
                  go_simp
                  have HWF := hid ((BF.out.setCell (p := ⟨gE, 0, none⟩) hge.out (.slice A5 l.length c5)).setCell (p := ⟨gE, 1, none⟩) hge.out (.int .i64 (t)))
                  have XF := hid (show Blk ((wf.setCell ⟨gE, 0, none⟩ (.slice A5 l.length c5)).setCell ⟨gE, 1, none⟩ (.int .i64 (t))) gE 27 #[.slice A5 l.length c5, .int .i64 (t)] by
                    have := (XE.out.set_ 0 (.slice A5 l.length c5)).set_ 1 (.int .i64 (t))
                    simpa using this)
                  have HMF := hid (show SlR ((wf.setCell ⟨gE, 0, none⟩ (.slice A5 l.length c5)).setCell ⟨gE, 1, none⟩ (.int .i64 (t))) ((wf.setCell ⟨gE, 0, none⟩ (.slice A5 l.length c5)).setCell ⟨gE, 1, none⟩ (.int .i64 (t))).heap.size A5 l by
                    have := (HMS.out.farB (p := ⟨gE, 0, none⟩) HSEP.out (.slice A5 l.length c5)).farB (p := ⟨gE, 1, none⟩) HSEP.out (.int .i64 (t))
                    simpa using this)
                  refine hK.out _ _ HWF.out ?_
                  (try simp only [Act.put, List.setIfInBounds_toArray, List.set_cons_zero, List.set_cons_succ])
                  clear hK K hHeld cE0 cE1 fE zE XE HMS HSEP
                  have hHeld := HWF.out
                  generalize ((wf.setCell ⟨gE, 0, none⟩ (.slice A5 l.length c5)).setCell ⟨gE, 1, none⟩ (.int .i64 (t))) = wG at *
                  refine wpAnyG_pure 11 (v := ?_) (fun _ => trivial) (by simp only [List.getElem?_toArray, List.getElem?_cons_succ, List.getElem?_cons_zero]; rfl) (by kernel_rfl) (fun _ _ _ _ _ h => h) ⟨(by rfl), (by intro c h; cases h), ?_⟩ hHeld ?_
                  rotate_left
                  focus (intro wS hSw; (try replace hSw := HSF.out wS hSw); (try dsimp only at hSw); go_simp; (try with_reducible rfl))
                  (try simp only [Act.put, List.setIfInBounds_toArray, List.set_cons_zero, List.set_cons_succ])
                  refine wpAnyS_done (by kernel_rfl) ?_
                  clear hHeld
                  go_wp2_with fail
                  go_meet
                  exact ⟨gE, A5, c5, rfl, rfl, XF.out, HMF.out, HWF.out⟩
            case rest =>
              obtain ⟨g2, A8, c8, rfl, rfl, hX8, hS8, hB⟩ := hcut
              have B1e := hid (B1t.out.trans (hB.mono B1t.out.size))
              have B5e := hid (B5t.out.trans (hB.mono B5t.out.size))
              have n0 := hX8.cell 0; have n1 := hX8.cell 1; have nz := hX8.lt
              simp at n0 n1
              obtain ⟨-, l0, l1, -, lz⟩ := HX.out wc B1e.out
              have HSA := hid (same_any A8 Al c8 cl l l t t wc (by unfold maxLen; omega) (by unfold maxLen; omega) hS8 (HL.out wc B1e.out))
              rw [show sameL l l t t = true by simp [sameL]] at HSA
              clear hX8 hS8 hB HSF HD2 S5t
              go_wp2_with fail
              refine HSA.out.mono ?_
              rintro e w9 ⟨rfl, hB⟩
              have B5f := hid (B5e.out.trans (hB.mono B5e.out.size))
              clear hB HSA n0 n1 nz l0 l1 lz
              go_wp2_with fail
              go_roundw
              case rel => exact ⟨k + 1, by omega, by go_num, B5f.out⟩
              case measure => simp [intOf]; omega
        case neg =>
          go_wp2_with fail
          go_ret
          exact ⟨rfl, B1.out.trans (B1z.out.mono B1.out.size)⟩
end Go.Proofs.Ytbelaeellcnpmaa
