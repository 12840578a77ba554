
/- Layouts, shifts: the walk of shifts. -/
import Derived.Test.YtbelaeellcnpmaaLshFp
set_option linter.unusedSimpArgs false
set_option linter.unusedVariables false
namespace Go.Proofs.Ytbelaeellcnpmaa
open Go.RowKit Go.IntWalk Go.Shelf

set_option maxRecDepth 100000 in
set_option maxHeartbeats 8000000 in
theorem shifts_any (W H D : Int) (Ak Ao : Option Addr) (ck co : Nat) (kind out : List Int) (Ar Al : Option Addr) (cr cl : Nat) (r : List Int) (l : List Bool) (t : Int) (full : Bool) (w : World) (hF : RF W H D kind out) (hk : SlR w w.heap.size Ak kind) (ho : SlR w w.heap.size Ao out) (hr : SlR w w.heap.size Ar r) (hL : SlR w w.heap.size Al l)
    (hreg : r.Pairwise (· < ·)) (hlr : r.length = l.length) (h24 : l.length ≤ 24) :
    Calls Try.prog 20 #[.agg #[.int .i64 W, .int .i64 H, .int .i64 D, .slice Ak kind.length ck, .slice Ao out.length co], .slice Ar r.length cr, .agg #[.slice Al l.length cl, .int .i64 t], .bool full] w fun e w' => ∃ (A' : Option Addr) (c' : Nat) (s : List Sh), e = .returned (.slice A' s.length c') ∧ s.Perm (allS W H D kind out r l full r.length) ∧ SlR w' w'.heap.size A' s ∧ Below w.heap.size w w' := by
  obtain ⟨w1, hw1⟩ : ∃ w1, w1 = ((w.alloc (Obj.cells #[Value.int .i64 W, Value.int .i64 H, Value.int .i64 D, Value.slice Ak kind.length ck, Value.slice Ao out.length co] 24)).alloc (Obj.cells #[.slice Al l.length cl, .int .i64 t] 27)) := ⟨_, rfl⟩
  have B1 := hid (show Below w.heap.size w w1 by rw [hw1]; (repeat (first | exact Below.refl _ _ | assumption | refine below_drewN ?_ _ | refine Below.drew ?_ | refine Below.alloc ?_ (by (try simp); (try omega)) _ | refine Below.setCell ?_ (by (try simp); (try omega)) _)))
  have X1 := (show Blk w1 w.heap.size 24 #[Value.int .i64 W, Value.int .i64 H, Value.int .i64 D, Value.slice Ak kind.length ck, Value.slice Ao out.length co] by rw [hw1]; exact (Blk.new w _ _).alloc _)
  have X2 := (show Blk w1 (w.heap.size + 1) 27 #[.slice Al l.length cl, .int .i64 t] by rw [hw1]; exact Blk.new_at (by simp))
  have HX := hid (fun (W' : World) (hW : Below w1.heap.size w1 W') => And.intro (blk5 (X1.below hW X1.lt)) (And.intro (show W'.cell? ⟨w.heap.size + 1, 0, none⟩ = some (.slice Al l.length cl) from (bcell hW _ _ X2.lt).trans (by rw [X2.cell]; rfl)) (And.intro (Nat.lt_of_lt_of_le X1.lt hW.size) (Nat.lt_of_lt_of_le X2.lt hW.size))))
  have HR := hid (fun (W' : World) (hW : Below w1.heap.size w1 W') => show SlR W' W'.heap.size Ar r from ((hr.below (B1.out.trans (hW.mono B1.out.size))).more (B1.out.trans (hW.mono B1.out.size)).size))
  have HLs := hid (fun (W' : World) (hW : Below w1.heap.size w1 W') => show SlR W' W'.heap.size Al l from ((hL.below (B1.out.trans (hW.mono B1.out.size))).more (B1.out.trans (hW.mono B1.out.size)).size))
  have HNX := hid (fun (c d : Int) (W' : World) (hW : Below w1.heap.size w1 W') => next_any W H D Ak Ao ck co kind out c d W' hF ((hk.below (B1.out.trans (hW.mono B1.out.size))).more (B1.out.trans (hW.mono B1.out.size)).size) ((ho.below (B1.out.trans (hW.mono B1.out.size))).more (B1.out.trans (hW.mono B1.out.size)).size))
  have HBS := hid (fun (x : Int) (W' : World) (hW : Below w1.heap.size w1 W') => bs_any Ar cr r x W' (by omega) (HR.out W' hW) hreg)
  have hreg2 := hid hreg
  have hlr2 := hid hlr
  have hS := hid hF.s
  have hr24 : r.length ≤ 24 := by omega
  clear hF hk ho hr hL X1 X2 hreg hlr
  go_enter Try.func20, Try.ntmps20
  go_upto_region 1 with fail
  rw [← hw1]
  clear hw1
  go_upto_region 3 with fail
  go_loopw [9, 19] (fun v iv wr => ∃ i : Nat, i ≤ r.length ∧ iv = .int .i64 i ∧ shRK.Own wr w1.heap.size v (allS W H D kind out r l full i) ∧ Below w1.heap.size w1 wr) (fun _ iv _ => r.length - (intOf iv).toNat)
  case atStart => exact ⟨0, by omega, rfl, RK.Own.nil, Below.refl _ _⟩
  case round =>
    obtain ⟨i, hi, rfl, ho, hB⟩ := hrel
    have HO := hid ho
    have HB := hid hB
    clear ho hB
    by_cases hlt : i < r.length
    case pos =>
      have hlt' : (i : Int) < r.length := by omega
      have hil : i < l.length := by have := hlr2.out; omega
      have hil' : (i : Int) < l.length := by omega
      obtain ⟨⟨k0, k1, k2, k3, k4⟩, l0, xz, lz⟩ := HX.out wr HB.out
      obtain ⟨br, or, hAr, hbr, hcr, -⟩ := (HR.out wr HB.out).int hlt
      obtain ⟨bl, ol, hAl, hbl, hcl⟩ := (HLs.out wr HB.out).bool hil
      have hri := hid (show r.getD i 0 = r[i] by rw [List.getD_eq_getElem?_getD, List.getElem?_eq_getElem hlt]; rfl)
      have hli := hid (show l.getD i (!full) = l[i] by rw [List.getD_eq_getElem?_getD, List.getElem?_eq_getElem hil]; rfl)
      have hsu := hid (allS_succ (W := W) (H := H) (D := D) (kind := kind) (out := out) (r := r) (l := l) (full := full) i)
      subst hAr hAl
      generalize r[i] = c at *
      generalize hfe : l[i] = fi at hcl hli
      clear hfe
      by_cases hff : fi = full
      case neg =>
        have hffb : (!fi == full) = true := by cases fi <;> cases full <;> simp at hff ⊢
        have hskip := hid (show allS W H D kind out r l full (i + 1) = allS W H D kind out r l full i by rw [hsu.out, if_neg (by rw [hli.out]; exact hff), List.append_nil])
        as_aux_lemma =>
          go_wp2_with fail
          go_roundw
          case rel => exact ⟨i + 1, by omega, by go_num, by rw [hskip.out]; exact HO.out, HB.out⟩
          case measure => simp [intOf]; omega
      subst hff
      have hall := hid (show allS W H D kind out r l fi (i + 1) = allS W H D kind out r l fi i ++ rowS W H D kind out r l fi i 6 by rw [hsu.out, if_pos (by rw [hli.out])])
      clear hsu
      have hil24 : i ≤ 24 := by omega
      have hal := hid (allS_len (W := W) (H := H) (D := D) (kind := kind) (out := out) (r := r) (l := l) (full := fi) i)
      have hrl := hid (fun m => rowS_len (W := W) (H := H) (D := D) (kind := kind) (out := out) (r := r) (l := l) (full := fi) i m)
      have hrs := hid (fun m => rowS_succ (W := W) (H := H) (D := D) (kind := kind) (out := out) (r := r) (l := l) (full := fi) i m)
      have hsd := hid (fun (d : Nat) => show stepS W H D kind out r l fi i d = match nextL W H D kind out c (d : Int) with
        | none => none
        | some y => if r.contains y = true ∧ l.getD (r.countP (fun z => decide (z < y))) fi ≠ fi then some ((i : Int), (r.countP (fun z => decide (z < y)) : Nat)) else none from by
          unfold stepS
          rw [hri.out]
          cases nextL W H D kind out c (d : Int) <;> rfl)
      generalize allS W H D kind out r l fi i = AL at *
      go_upto_region 7 with fail
      clear k0 k1 k2 k3 k4 l0 hcr hcl
      go_loopw [9, 31] (fun v dv wr => ∃ d : Nat, d ≤ 6 ∧ dv = .int .i64 d ∧ shRK.Own wr w1.heap.size v (AL ++ rowS W H D kind out r l fi i d) ∧ Below w1.heap.size w1 wr) (fun _ dv _ => 6 - (intOf dv).toNat)
      case atStart => exact ⟨0, by omega, rfl, by simpa [rowS] using HO.out, HB.out⟩
      case round =>
        clear HO HB xz lz hbr hbl
        obtain ⟨d, hd, rfl, ho, hB⟩ := hrel
        have HO := hid ho
        have HB := hid hB
        clear ho hB
        by_cases hld : d < 6
        case pos =>
          have hld' : (d : Int) < 6 := by omega
          obtain ⟨⟨k0, k1, k2, k3, k4⟩, l0, xz, lz⟩ := HX.out wr HB.out
          have HN := hid (HNX.out c (d : Int) wr HB.out)
          have hrd := hid (hrs.out d)
          have hsdd := hid (hsd.out d)
          have hrl6 := hid (hrl.out d)
          generalize nextL W H D kind out c (d : Int) = nx at *
          go_wp2_with fail
          refine HN.out.mono ?_
          rintro e w5 ⟨rfl, hB5⟩
          have HB5 := hid (HB.out.trans (hB5.mono HB.out.size))
          have HO5 := hid (HO.out.below hB5)
          clear hB5 HN k0 k1 k2 k3 k4 l0 xz lz
          cases nx with
          | none =>
            have hrow := hid (show rowS W H D kind out r l fi i (d + 1) = rowS W H D kind out r l fi i d by rw [hrd.out, hsdd.out]; simp)
            unfold nextV
            as_aux_lemma =>
              go_wp2_with fail
              go_roundw
              case rel => exact ⟨d + 1, by omega, by go_num, by rw [hrow.out]; exact HO5.out, HB5.out⟩
              case measure => simp [intOf]; omega
          | some y =>
            simp only at hsdd
            unfold nextV
            have HBy := hid (HBS.out y w5 HB5.out)
            cases hcn : r.contains y with
            | false =>
              have hrow := hid (show rowS W H D kind out r l fi i (d + 1) = rowS W H D kind out r l fi i d by rw [hrd.out, hsdd.out, hcn]; simp)
              rw [hcn] at HBy
              clear hcn hsdd
              generalize r.countP (fun z => decide (z < y)) = kk at *
              as_aux_lemma =>
                go_wp2_with fail
                refine HBy.out.mono ?_
                rintro e w6 ⟨rfl, hB6⟩
                have HB6 := hid (HB5.out.trans (hB6.mono HB5.out.size))
                have HO6 := hid (HO5.out.below hB6)
                clear hB6
                go_wp2_with fail
                go_roundw
                case rel => exact ⟨d + 1, by omega, by go_num, by rw [hrow.out]; exact HO6.out, HB6.out⟩
                case measure => simp [intOf]; omega
            | true =>
              rw [hcn] at HBy
              obtain ⟨kk, hkk, hkc⟩ := List.getElem_of_mem (List.contains_iff_mem.1 hcn)
              have hcount := count_at hreg2.out kk hkk
              rw [hkc] at hcount
              rw [hcount] at HBy hsdd
              rw [hcn] at hsdd
              clear hcount hkc hcn
              have hkl : kk < l.length := by have := hlr2.out; omega
              have hkli : (kk : Int) < l.length := by omega
              have hkr24 : kk ≤ 24 := by omega
              have hlk := hid (show l.getD kk fi = l[kk] by rw [List.getD_eq_getElem?_getD, List.getElem?_eq_getElem hkl]; rfl)
              have hrw5 := hid (fun (h : l[kk] = fi) => show rowS W H D kind out r l fi i (d + 1) = rowS W H D kind out r l fi i d by rw [hrd.out, hsdd.out, if_neg (by rw [hlk.out]; exact fun hc => hc.2 h)]; simp)
              have hrw6 := hid (fun (h : l[kk] ≠ fi) => show rowS W H D kind out r l fi i (d + 1) = rowS W H D kind out r l fi i d ++ [((i : Int), (kk : Int))] by rw [hrd.out, hsdd.out, if_pos (by rw [hlk.out]; exact ⟨rfl, h⟩)]; rfl)
              clear hsdd hrd hlk
              go_wp2_with fail
              refine HBy.out.mono ?_
              rintro e w6 ⟨rfl, hB6⟩
              have HB6 := hid (HB5.out.trans (hB6.mono HB5.out.size))
              have HO6 := hid (HO5.out.below hB6)
              clear hB6 HBy HO5 HB5
              obtain ⟨⟨k0, k1, k2, k3, k4⟩, l0, xz, lz⟩ := HX.out w6 HB6.out
              have hbc := (HLs.out w6 HB6.out).bool_at hkl
              have hbl6 : bl < w6.heap.size := (cell_lt hbc).1
              generalize l[kk] = fk at *
              by_cases hfk : fk = fi
              · have hrow := hid (hrw5.out hfk)
                subst hfk
                clear hrw5 hrw6
                as_aux_lemma =>
                  go_wp2_with fail
                  go_roundw
                  case rel => exact ⟨d + 1, by omega, by go_num, by rw [hrow.out]; exact HO6.out, HB6.out⟩
                  case measure => simp [intOf]; omega
              · have hrow := hid (hrw6.out hfk)
                have hfb : (!fk == fi) = true := by cases fk <;> cases fi <;> simp at hfk ⊢
                clear hrw5 hrw6
                go_upto_region 13 with fail
                have SG := hid (shRK.blk (l := [((i : Int), (kk : Int))]) (Blk.new w6 36 #[.int .i64 (i : Nat), .int .i64 (kk : Nat)]) (by intro e he; simp only [List.mem_singleton] at he; subst he; exact ⟨⟨by simp only; omega, by simp only; omega⟩, by simp only; omega, by simp only; omega⟩))
                have hl9 := hid (show (AL ++ rowS W H D kind out r l fi i d).length + ([((i : Int), (kk : Int))] : List Sh).length ≤ 100000000 by rw [List.length_append, List.length_singleton]; have h1 := hal.out; have h2 := hrl6.out; omega)
                have hb9 := hid (show w1.heap.size ≤ (w6.alloc (Obj.cells #[.int .i64 (i : Nat), .int .i64 (kk : Nat)] 36)).heap.size by have h1 := HB6.out.size; simp; omega)
                as_aux_lemma =>
                  go_wp2_with (at_builtin; refine shRK.appL _ rfl (.tmp 59) (.tmp 63) rfl rfl (HO6.out.alloc _) (ys := [((i : Int), (kk : Int))]) (c := 1) rfl SG.out hl9.out hb9.out ?_; intro A9 c9 w9 ho9 hg9; have HO9 := hid ho9; have HB9 := hid (show Below w1.heap.size w1 w9 from (HB6.out.alloc HB6.out.size _).grown hg9 hb9.out (fun g hg => (own_blk HO6.out g hg).1)); clear ho9 hg9)
                  go_roundw
                  case rel => exact ⟨d + 1, by omega, by go_num, by rw [hrow.out, ← List.append_assoc]; have h9 := HO9.out; simp only [List.length_append, List.length_singleton] at h9; exact h9, HB9.out⟩
                  case measure => simp [intOf]; omega
        case neg =>
          obtain rfl : d = 6 := by omega
          as_aux_lemma =>
            go_wp2_with fail
            go_roundw
            case rel => exact ⟨i + 1, by omega, by go_num, by rw [hall.out]; exact HO.out, HB.out⟩
            case measure => simp [intOf]; omega
    case neg =>
      obtain rfl : i = r.length := by omega
      have hal := allS_len (W := W) (H := H) (D := D) (kind := kind) (out := out) (r := r) (l := l) (full := full) r.length
      have hin := hid (allS_in (W := W) (H := H) (D := D) (kind := kind) (out := out) (full := full) hreg2.out hlr2.out h24 (show r.length ≤ 24 by omega))
      have hnd := hid (allS_nodup (kind := kind) (out := out) (l := l) (full := full) hS.out hreg2.out r.length)
      generalize hALe : allS W H D kind out r l full r.length = AL at *
      have HAL := hid hALe
      clear hALe
      have hal2 : AL.length ≤ 144 := by omega
      clear hal
      by_cases h0 : 0 < AL.length
      · obtain ⟨g, cap, cur, rfl, hg, -, -, -, -⟩ := own_cell HO.out h0
        have HSO := hid (sortsh_any w1.heap.size g cap AL wr (by omega) hin.out HO.out)
        go_upto_region 16 with fail
        go_wp2_with fail
        refine HSO.out.mono ?_
        rintro e w5 ⟨rfl, s, hp, hos, hgr⟩
        have HP := hid hp
        have hpl := hid hp.length_eq
        have HB5 := hid (show Below w1.heap.size w1 w5 from HB.out.grown hgr HB.out.size (fun k hk => by injection hk with e; omega))
        obtain ⟨A9, c9, e9, _, _, hss⟩ := hos.slr (fun x hx => by have := hin.out x (hp.mem_iff.1 hx); exact ⟨⟨by omega, by omega⟩, by omega, by omega⟩)
        injection e9 with e9
        have HSS := hid (show SlR w5 w5.heap.size (some ⟨g, 0, none⟩) s from by rw [e9]; exact hss)
        have hsn := hid (hp.nodup_iff.2 hnd.out)
        clear hos hgr hss e9 hp
        rw [← hpl.out]
        have HCP := hid (fun c8 => compact_any (some ⟨g, 0, none⟩) c8 s w5 (by have := hpl.out; omega) HSS.out hsn.out)
        go_wp2_with fail
        refine (HCP.out _).mono ?_
        rintro e w6 ⟨rfl, hB6⟩
        have BW := hid (B1.out.trans ((HB5.out.trans (hB6.mono HB5.out.size)).mono B1.out.size))
        have HS6 := hid ((HSS.out.below hB6).more hB6.size)
        clear hB6
        go_wp2_with fail
        go_ret
        exact ⟨some ⟨g, 0, none⟩, _, s, rfl, by rw [HAL.out]; exact HP.out, HS6.out, BW.out⟩
      · obtain ⟨A9, c9, rfl⟩ := HO.out.form
        have hAL : AL = [] := List.eq_nil_of_length_eq_zero (by omega)
        subst hAL
        have HSO := hid (sortnil_any A9 c9 wr)
        simp only [List.length_nil] at HSO ⊢
        have HCP := hid (fun A8 c8 W => compact_any A8 c8 [] W (by simp) SlR.nil (by simp))
        simp only [List.length_nil] at HCP
        go_wp2_with fail
        refine HSO.out.mono ?_
        rintro e w5 ⟨rfl, rfl⟩
        go_wp2_with fail
        refine (HCP.out _ _ _).mono ?_
        rintro e w6 ⟨rfl, hB6⟩
        have BW := hid (B1.out.trans ((HB.out.trans (hB6.mono HB.out.size)).mono B1.out.size))
        clear hB6
        go_wp2_with fail
        go_ret
        exact ⟨A9, c9, [], rfl, by rw [HAL.out], SlR.nil, BW.out⟩
end Go.Proofs.Ytbelaeellcnpmaa
