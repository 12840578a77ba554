
/- Petri: Fire. -/
import Derived.Test.YtbbogflibekgfaaDoorPetC
set_option linter.unusedSimpArgs false
set_option linter.unusedVariables false
namespace Go.Proofs.YtbbogflibekgfaaDoor
open Go.RowKit Go.IntWalk Go.Shelf

theorem asc_len {n : Int} : ∀ {l : List Int} {last : Int}, asc n last l = true → last < n → last + l.length < n
  | [], last, _, h => by simpa using h
  | x :: r, last, h, h' => by
    simp only [asc, Bool.and_eq_true, decide_eq_true_eq] at h
    have := asc_len h.2 h.1.2
    simp only [List.length_cons]
    omega
theorem setB_len {n : Int} {s : List Int} (h : setB n s = true) (hn : 0 ≤ n) : (s.length : Int) ≤ n := by
  have := asc_len h (by omega)
  omega
def addN (d : Int) (m s : List Int) : List Int := s.foldl (fun m p => m.set p.toNat (m.getD p.toNat 0 + d)) m
theorem addN_len (d : Int) : ∀ (s m : List Int), (addN d m s).length = m.length
  | [], m => rfl
  | p :: s, m => by
    have := addN_len d s (m.set p.toNat (m.getD p.toNat 0 + d))
    rw [List.length_set] at this
    exact this
theorem addN_take (d : Int) (m s : List Int) (k : Nat) (hk : k < s.length) : addN d m (s.take (k + 1)) = (addN d m (s.take k)).set s[k].toNat ((addN d m (s.take k)).getD s[k].toNat 0 + d) := by
  unfold addN
  rw [List.take_add_one, List.getElem?_eq_getElem hk, List.foldl_append]
  rfl
theorem addN_in {d a b : Int} (hd : -1 ≤ d ∧ d ≤ 1) : ∀ (s m : List Int), a ≤ 0 → 0 ≤ b → (∀ x ∈ m, a ≤ x ∧ x ≤ b) → ∀ x ∈ addN d m s, a - s.length ≤ x ∧ x ≤ b + s.length
  | [], m, _, _, h, x, hx => by have := h x hx; simp; omega
  | p :: s, m, ha, hb, h, x, hx => by
    have h2 : ∀ y ∈ m.set p.toNat (m.getD p.toNat 0 + d), a - 1 ≤ y ∧ y ≤ b + 1 := fun y hy => by
      rcases List.mem_or_eq_of_mem_set hy with hy | rfl
      · have := h y hy; omega
      · by_cases hp : p.toNat < m.length
        · have := h _ (List.getElem_mem hp)
          rw [List.getD_eq_getElem?_getD, List.getElem?_eq_getElem hp]
          simp only [Option.getD_some]
          omega
        · rw [List.getD_eq_getElem?_getD, List.getElem?_eq_none (by omega)]
          simp only [Option.getD_none]
          omega
    have := addN_in hd s _ (a := a - 1) (b := b + 1) (by omega) (by omega) h2 x hx
    simp only [List.length_cons]
    omega
/-- What Fire returns. -/
def fireN (n : Int) (T : List Tr) (m : List Int) (t : Int) : List Int × Int :=
  if t < 0 ∨ (T.length : Int) ≤ t then ([], 4)
  else if enN T m t = false then ([], 7)
  else if markOK (n, T) (addN 1 (addN (-1) m (T.getD t.toNat ([], [])).1) (T.getD t.toNat ([], [])).2) = true then (addN 1 (addN (-1) m (T.getD t.toNat ([], [])).1) (T.getD t.toNat ([], [])).2, 0)
  else ([], 6)
def RetFire (w : World) (r : List Int × Int) (e : Ending) (w' : World) : Prop := ∃ A c, e = .returned (.tuple #[.slice A r.1.length c, .int .i64 r.2]) ∧ SlR w' w'.heap.size A r.1 ∧ Below w.heap.size w w'
set_option maxRecDepth 100000 in
set_option maxHeartbeats 4000000 in
theorem fire_any (n : Int) (A : Option Addr) (c : Nat) (T : List Tr) (B : Option Addr) (d : Nat) (m : List Int) (t : Int) (w : World) (hl : T.length ≤ maxLen) (h : SlR w w.heap.size A T) (hM : SlR w w.heap.size B m)
    (hok : netOK (n, T) = true) (hmk : markOK (n, T) m = true) :
    Calls Tryd.prog 15 #[.agg #[.int .i64 n, .slice A T.length c], .slice B m.length d, .int .i64 t] w (RetFire w (fireN n T m t)) := by
  obtain ⟨w1, hw1⟩ : ∃ w1, w1 = (w.alloc (Obj.cells #[.int .i64 n, .slice A T.length c] 24)) := ⟨_, rfl⟩
  have s1 : w1.heap.size = w.heap.size + 1 := by rw [hw1]; simp
  have B1 : Below w.heap.size w w1 := by rw [hw1]; (repeat (first | exact Below.refl _ _ | assumption | refine below_drewN ?_ _ | refine Below.drew ?_ | refine Below.alloc ?_ (by (try simp); (try omega)) _ | refine Below.setCell ?_ (by (try simp); (try omega)) _))
  have x1 : Blk w1 w.heap.size 24 #[.int .i64 n, .slice A T.length c] := by rw [hw1]; exact Blk.new w _ _
  have y1 := x1.cell 1; have y0 := x1.cell 0; have z1 := x1.lt
  simp at y1 y0
  have HB1 := hid B1
  by_cases ht : t < 0 ∨ (T.length : Int) ≤ t
  · have hr := hid (show fireN n T m t = ([], 4) by unfold fireN; rw [if_pos ht])
    unfold maxLen at hl
    go_enter Tryd.func15, Tryd.ntmps15
    go_upto_region 1 with fail
    rw [← hw1]
    clear hw1 B1 x1
    by_cases h0 : t < 0
    · go_wp2_with fail
      go_ret2
      exact ⟨none, 0, by rw [hr.out]; rfl, by rw [hr.out]; exact SlR.nil, HB1.out⟩
    · have hT : (T.length : Int) ≤ t := by omega
      go_wp2_with fail
      go_ret2
      exact ⟨none, 0, by rw [hr.out]; rfl, by rw [hr.out]; exact SlR.nil, HB1.out⟩
  have hn : n = m.length := by
    simp only [markOK, Bool.and_eq_true, decide_eq_true_eq] at hmk
    exact hmk.1.symm
  have hn64 : 0 ≤ n ∧ n ≤ 64 := by
    simp only [netOK, Bool.and_eq_true, decide_eq_true_eq] at hok
    exact ⟨hok.1.1.1, hok.1.1.2⟩
  have hmr : ∀ x ∈ m, 0 ≤ x ∧ x ≤ 1099511627776 := fun x hx => by
    simp only [markOK, Bool.and_eq_true, List.all_eq_true, decide_eq_true_eq] at hmk
    exact hmk.2 x hx
  obtain ⟨q, rfl⟩ : ∃ q : Nat, t = q := ⟨t.toNat, by omega⟩
  have hq : q < T.length := by omega
  have hq' : (q : Int) < T.length := by omega
  have hset : setB n T[q].1 = true ∧ setB n T[q].2 = true := by
    simp only [netOK, Bool.and_eq_true, List.all_eq_true] at hok
    exact hok.2 _ (List.getElem_mem hq)
  have hmlen : m.length ≤ 64 := by omega
  have HE := hid (enabled_any n A c T B d m q w1 hl ((h.below B1).more B1.size) (by unfold maxLen; omega) ((hM.below B1).more B1.size) hn hok)
  have HCl := hid (fun W (hW : Below w.heap.size w W) => sclone_own B d m W (by omega) ((hM.below hW).more hW.size))
  obtain ⟨b, off, A1, c1, A2, c2, rfl, hb, g0, g1, hs1, hs2, hl1, hl2⟩ := h.tr hq
  have hf := hid (show enN T m q = true → fireN n T m q = if markOK (n, T) (addN 1 (addN (-1) m T[q].1) T[q].2) = true then (addN 1 (addN (-1) m T[q].1) T[q].2, 0) else ([], 6) from fun he => by
    unfold fireN
    rw [if_neg ht, he]
    simp [hq])
  have hf0 := hid (show enN T m q = false → fireN n T m q = ([], 7) from fun he => by
    unfold fireN
    rw [if_neg ht, he]
    simp)
  have HMk := hid (fun (out : List Int) => mark_any n (some ⟨b, off, none⟩) c T)
  have hI := hid (fun x (hx : x ∈ T[q].1) => setB_mem hset.1 x hx)
  have hO := hid (fun x (hx : x ∈ T[q].2) => setB_mem hset.2 x hx)
  have hIl := setB_len hset.1 hn64.1
  have hOl := setB_len hset.2 hn64.1
  have HMr := hid hmr
  clear h hM hok hmk hmr hset
  generalize T[q].1 = I at *
  generalize T[q].2 = O at *
  unfold maxLen at hl hl1 hl2
  have HN := hid hn
  clear ht hn
  go_enter Tryd.func15, Tryd.ntmps15
  go_upto_region 1 with fail
  rw [← hw1]
  clear hw1
  have X1 := hid x1
  clear x1
  cases he : enN T m q with
  | false =>
    rw [he] at HE
    have hr := hid (hf0.out he)
    clear he hf hf0
    go_wp2_with fail
    refine HE.out.mono ?_
    rintro e w2 ⟨rfl, hB2⟩
    have HB := hid (B1.trans (hB2.mono B1.size))
    clear hB2 HE
    go_wp2_with fail
    go_ret2
    exact ⟨none, 0, by rw [hr.out]; rfl, by rw [hr.out]; exact SlR.nil, HB.out⟩
  | true =>
    rw [he] at HE
    have hr := hid (hf.out he)
    clear he hf hf0
    go_upto_region 5 with (go_at_call 26; refine HE.out.mono ?_; rintro e w2 ⟨rfl, hB2⟩)
    have HB2 := hid (B1.trans (hB2.mono B1.size))
    have y0' := (bcell hB2 w.heap.size 0 z1).trans y0
    have y1' := (bcell hB2 w.heap.size 1 z1).trans y1
    have hgz := HB2.out.size
    have hcl := hid (HCl.out w2 HB2.out)
    have z2 : w.heap.size < w2.heap.size := by have := hB2.size; omega
    clear hB2 HE HCl y0 y1
    go_upto_region 6 with (go_at_call 40; refine hcl.out.mono ?_; rintro e w3 ⟨v, rfl, ho3, hB3⟩; obtain ⟨A3, c3, rfl, hA3⟩ := ho3.form)
    have HB3 := hid (HB2.out.trans (hB3.mono HB2.out.size))
    have HW3 := hid hB3
    have y0 := (bcell hB3 w.heap.size 0 z2).trans y0'
    have y1 := (bcell hB3 w.heap.size 1 z2).trans y1'
    have z3 : w.heap.size < w3.heap.size := by have := hB3.size; omega
    have g0' := (bcell HB3.out b _ hb).trans g0
    have hzb : b < w3.heap.size := by have := HB3.out.size; omega
    have HO3 := hid ho3
    have HY := hid (And.intro y0' y1')
    clear hB3 ho3 y0' y1' hcl
    have hIm := hid (fun k => addN_in (d := -1) (a := 0) (b := 1099511627776) (by omega) (I.take k) m (by omega) (by omega) (fun x hx => HMr.out x hx))
    go_upto_region 7 with fail
    go_loopw [38] (fun i wr => ∃ k : Nat, k ≤ I.length ∧ i = .int .i64 k ∧ Below w2.heap.size w2 wr ∧ w3.heap.size ≤ wr.heap.size ∧ OwnI wr w2.heap.size (.slice A3 m.length c3) (addN (-1) m (I.take k))) (fun i _ => I.length - (intOf i).toNat)
    case atStart => exact ⟨0, by omega, rfl, HW3.out, Nat.le_refl _, HO3.out⟩
    case round =>
      obtain ⟨k, hk, rfl, hBr, hsr, hor⟩ := hrel
      have HBr := hid hBr
      have HOr := hid hor
      clear hor
      by_cases hlt : k < I.length
      · have hlt' : (k : Int) < I.length := by omega
        obtain ⟨b1, off1, rfl, hb1, hc1, hi1⟩ := hs1.int hlt
        have hx := hI.out _ (List.getElem_mem hlt)
        have hst := hid (addN_take (-1) m I k hlt)
        have hin := hIm.out k
        replace hc1 := (bcell (HB2.out.trans (HBr.out.mono HB2.out.size)) b1 _ hb1).trans hc1
        have hzr : b1 < wr.heap.size := by omega
        have hkl : (I.take k).length ≤ 64 := by rw [List.length_take]; omega
        have hml := hid (addN_len (-1) (I.take k) m)
        clear hBr hi1
        generalize I[k] = x at *
        obtain ⟨p, rfl⟩ : ∃ p : Nat, x = p := ⟨x.toNat, by omega⟩
        rw [HN.out] at hx
        have hp : p < m.length := by omega
        have hp' : (p : Int) < m.length := by omega
        have hpl : p < (addN (-1) m (I.take k)).length := by rw [hml.out]; exact hp
        obtain ⟨A9, c9, hv9, hA9⟩ := HOr.out.form
        obtain ⟨g, rfl, hgb, hgl, hcell, hfr⟩ := hA9 (by intro e; rw [e] at hpl; simp at hpl)
        injection hv9 with hv9 hv9l hv9c
        subst hv9 hv9c
        have q0 := hcell p hpl
        have q1 := hfr p
        have hu := hin _ (List.getElem_mem hpl)
        have hu2 : -64 ≤ (addN (-1) m (I.take k))[p] ∧ (addN (-1) m (I.take k))[p] ≤ 1099511627840 := by omega
        have hset := hid (HOr.out.set_ hpl ((addN (-1) m (I.take k))[p] - 1))
        have hnx := hid (show addN (-1) m (I.take (k + 1)) = (addN (-1) m (I.take k)).set p ((addN (-1) m (I.take k))[p] - 1) by
          rw [hst.out, Int.toNat_natCast, List.getD_eq_getElem?_getD, List.getElem?_eq_getElem hpl]; rfl)
        have hB9 := hid (HBr.out.setCell (p := ⟨g, p, none⟩) hgb (.int .i64 ((addN (-1) m (I.take k))[p] - 1)))
        clear hfr hcell hin hu hst hA9
        rw [← hnx.out] at hset
        clear hnx
        generalize (addN (-1) m (I.take k))[p] = u at *
        go_wp2_with fail
        go_roundw
        case rel => exact ⟨k + 1, by omega, by go_num, hB9.out, by simpa using hsr, hset.out⟩
        case measure => simp [intOf]; omega
      · obtain rfl : k = I.length := by omega
        rw [List.take_length] at HOr
        have hIm9 := hid (show ∀ x ∈ addN (-1) m I, -64 ≤ x ∧ x ≤ 1099511627840 from fun x hx => by
          have h1 := hIm.out I.length
          rw [List.take_length] at h1
          have := h1 x hx
          omega)
        have hml := hid (addN_len (-1) I m)
        generalize addN (-1) m I = m1 at *
        clear hs1 hI HO3 hIm
        have g1' := (bcell (HB2.out.trans (hBr.mono HB2.out.size)) b _ hb).trans g1
        replace y1 := (bcell hBr w.heap.size 1 z2).trans HY.out.2
        have hzr : b < wr.heap.size := by omega
        have hzn : w.heap.size < wr.heap.size := by omega
        have hOm := hid (fun k => addN_in (d := 1) (a := -64) (b := 1099511627840) (by omega) (O.take k) m1 (by omega) (by omega) (fun x hx => hIm9.out x hx))
        clear g0' y0 hBr
        go_upto_region 12 with fail
        go_loopw [56] (fun i wq => ∃ k : Nat, k ≤ O.length ∧ i = .int .i64 k ∧ Below w2.heap.size w2 wq ∧ w3.heap.size ≤ wq.heap.size ∧ OwnI wq w2.heap.size (.slice A3 m.length c3) (addN 1 m1 (O.take k))) (fun i _ => O.length - (intOf i).toNat)
        case atStart => exact ⟨0, by omega, rfl, HBr.out, hsr, HOr.out⟩
        case round =>
          clear HBr HOr hsr hzr hzn
          obtain ⟨k, hk, rfl, hBr, hsr, hor⟩ := hrel
          have HBr := hid hBr
          have HOr := hid hor
          clear hor
          by_cases hlt : k < O.length
          · have hlt' : (k : Int) < O.length := by omega
            obtain ⟨b1, off1, rfl, hb1, hc1, hi1⟩ := hs2.int hlt
            have hx := hO.out _ (List.getElem_mem hlt)
            have hst := hid (addN_take 1 m1 O k hlt)
            have hin := hOm.out k
            replace hc1 := (bcell (HB2.out.trans (HBr.out.mono HB2.out.size)) b1 _ hb1).trans hc1
            have hzr : b1 < wr.heap.size := by omega
            have hkl : (O.take k).length ≤ 64 := by rw [List.length_take]; omega
            have hml2 := hid (addN_len 1 (O.take k) m1)
            clear hBr hi1
            generalize O[k] = x at *
            obtain ⟨p, rfl⟩ : ∃ p : Nat, x = p := ⟨x.toNat, by omega⟩
            rw [HN.out] at hx
            have hp : p < m.length := by omega
            have hp' : (p : Int) < m.length := by omega
            have hpl : p < (addN 1 m1 (O.take k)).length := by rw [hml2.out, hml.out]; exact hp
            obtain ⟨A9, c9, hv9, hA9⟩ := HOr.out.form
            obtain ⟨g, rfl, hgb, hgl, hcell, hfr⟩ := hA9 (by intro e; rw [e] at hpl; simp at hpl)
            injection hv9 with hv9 hv9l hv9c
            subst hv9 hv9c
            have q0 := hcell p hpl
            have q1 := hfr p
            have hu := hin _ (List.getElem_mem hpl)
            have hu2 : -128 ≤ (addN 1 m1 (O.take k))[p] ∧ (addN 1 m1 (O.take k))[p] ≤ 1099511627904 := by omega
            have hset := hid (HOr.out.set_ hpl ((addN 1 m1 (O.take k))[p] + 1))
            have hnx := hid (show addN 1 m1 (O.take (k + 1)) = (addN 1 m1 (O.take k)).set p ((addN 1 m1 (O.take k))[p] + 1) by
              rw [hst.out, Int.toNat_natCast, List.getD_eq_getElem?_getD, List.getElem?_eq_getElem hpl]; rfl)
            have hB9 := hid (HBr.out.setCell (p := ⟨g, p, none⟩) hgb (.int .i64 ((addN 1 m1 (O.take k))[p] + 1)))
            clear hfr hcell hin hu hst hA9
            rw [← hnx.out] at hset
            clear hnx
            generalize (addN 1 m1 (O.take k))[p] = u at *
            go_wp2_with fail
            go_roundw
            case rel => exact ⟨k + 1, by omega, by go_num, hB9.out, by simpa using hsr, hset.out⟩
            case measure => simp [intOf]; omega
          · obtain rfl : k = O.length := by omega
            rw [List.take_length] at HOr
            have hout := hid (show ∀ x ∈ addN 1 m1 O, I64 x from fun x hx => by
              have h1 := hOm.out O.length
              rw [List.take_length] at h1
              have := h1 x hx
              unfold I64
              omega)
            have hml2 := hid ((addN_len 1 O m1).trans hml.out)
            generalize addN 1 m1 O = out at *
            clear hs2 hO hOm hIm9
            replace y0 := (bcell hBr w.heap.size 0 z2).trans HY.out.1
            replace y1 := (bcell hBr w.heap.size 1 z2).trans HY.out.2
            have hzn : w.heap.size < wr.heap.size := by omega
            obtain ⟨A9, c9, hv9, _, _, hsl⟩ := HOr.out.slr hout.out
            injection hv9 with hv9 hv9l hv9c
            subst hv9 hv9c
            have HMM := hid (HMk.out [] A3 c3 out wr (by rw [hml2.out]; unfold maxLen; omega) hsl)
            have HS := hid hsl
            have HBf := hid (HB2.out.trans (hBr.mono HB2.out.size))
            clear hsl hBr HMk
            cases hmo : markOK (n, T) out with
            | true =>
              rw [hmo, if_pos rfl] at hr
              rw [hmo] at HMM
              clear hmo
              go_wp2_with (go_at_call 25; refine HMM.out.mono ?_; rintro e w9 ⟨rfl, hB9⟩)
              have HB9 := hid hB9
              clear hB9
              go_wp2_with fail
              go_ret2
              exact ⟨A3, c3, by rw [hr.out]; rfl, by rw [hr.out]; exact (HS.out.below HB9.out).more HB9.out.size, HBf.out.trans (HB9.out.mono HBf.out.size)⟩
            | false =>
              rw [hmo, if_neg (by simp)] at hr
              rw [hmo] at HMM
              clear hmo
              go_wp2_with (go_at_call 25; refine HMM.out.mono ?_; rintro e w9 ⟨rfl, hB9⟩)
              have HB9 := hid hB9
              clear hB9
              go_wp2_with fail
              go_ret2
              exact ⟨none, 0, by rw [hr.out]; rfl, by rw [hr.out]; exact SlR.nil, HBf.out.trans (HB9.out.mono HBf.out.size)⟩
end Go.Proofs.YtbbogflibekgfaaDoor
