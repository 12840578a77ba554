
/- Seam: a desk's Bytes. -/
import Derived.Test.YtfofmbmmighdiaaDoorSeamF
import Derived.Test.YtfofmbmmighdiaaDoorSeamE
import Derived.Test.YtfofmbmmighdiaaDoorWireC
import Derived.Deep.RegionWith
set_option linter.unusedSimpArgs false
set_option linter.unusedVariables false
namespace Go.Proofs.YtfofmbmmighdiaaDoor
open Go.RowKit Go.IntWalk

def fb (f : Bool) : Int := if f then 1 else 0
def encRb (r : Rob) : List UInt8 := encI r.1 ++ encI r.2.1 ++ encI (fb r.2.2)
def encDh (me : Int) (n : Nat) : List UInt8 := encI me ++ encI n
def encD (me : Int) (rs : List Rob) : List UInt8 := encDh me rs.length ++ (rs.map encRb).flatten
/-- The numbers that a desk may hold in memory. -/
def RobI (r : Rob) : Prop := I64 r.1 ∧ I64 r.2.1
theorem encRb_le (r : Rob) (h : RobI r) : (encRb r).length ≤ 66 := by
  have h1 := encI_le r.1 h.1
  have h2 := encI_le r.2.1 h.2
  have h3 := encI_le (fb r.2.2) (by unfold fb I64; split <;> omega)
  simp only [encRb, List.length_append]; omega
theorem flat66 (es : List (List UInt8)) (h : ∀ y ∈ es, y.length ≤ 66) : es.flatten.length ≤ es.length * 66 := by
  induction es with
  | nil => simp
  | cons y es ih =>
    have h1 := ih (fun z hz => h z (List.mem_cons_of_mem _ hz))
    have h2 := h y List.mem_cons_self
    rw [List.flatten_cons, List.length_append, List.length_cons, Nat.succ_mul]
    omega
theorem lt_al (w : World) (o : Obj) : w.heap.size < (w.alloc o).heap.size := by simp
/-- The Builder's block, and what stands in it. -/
structure BD (w : World) (acc : List UInt8) (wx : World) : Prop where
  below : Below w.heap.size w wx
  isb : Lib.IsBuilder 89 5 w.heap.size w.heap.size (Lib.byteCells acc) wx
theorem BD.step {w wx wy : World} {acc : List UInt8} (h : BD w acc wx) (hb : Below wx.heap.size wx wy) : BD w acc wy := ⟨h.below.trans (hb.mono h.below.size), isB_below h.isb hb⟩
theorem BD.drew {w wx : World} {acc : List UInt8} (h : BD w acc wx) : BD w acc wx.drew := h.step (by (repeat (first | exact Below.refl _ _ | assumption | refine below_drewN ?_ _ | refine Below.drew ?_ | refine Below.alloc ?_ (by (try simp); (try omega)) _ | refine Below.setCell ?_ (by (try simp); (try omega)) _)))
theorem BD.alloc {w wx : World} {acc : List UInt8} (h : BD w acc wx) (o : Obj) : BD w acc (wx.alloc o) := h.step (by (repeat (first | exact Below.refl _ _ | assumption | refine below_drewN ?_ _ | refine Below.drew ?_ | refine Below.alloc ?_ (by (try simp); (try omega)) _ | refine Below.setCell ?_ (by (try simp); (try omega)) _)))
theorem BD.int {w : World} {acc : List UInt8} (he : Env w) (n : Int) (hn : I64 n) (W : World) (h : BD w acc W) : Calls Tryd.prog 51 #[.int .i64 n] W fun e w' => e = .returned (.string (bs (encI n))) ∧ BD w acc w' ∧ (∀ k o, k < W.heap.size → w'.cell? ⟨k, o, none⟩ = W.cell? ⟨k, o, none⟩) ∧ W.heap.size ≤ w'.heap.size :=
  (wInt_any n hn W (he.below h.below)).mono fun _ _ ⟨h1, h2⟩ => ⟨h1, h.step h2, fun k o hk => bcell h2 k o hk, h2.size⟩
theorem BD.num {w : World} {acc : List UInt8} (he : Env w) (n : Nat) (hn : n ≤ 1000000) (W : World) (h : BD w acc W) : Calls Tryd.prog 52 #[.int .i64 n] W fun e w' => e = .returned (.string (bs (encI n))) ∧ BD w acc w' := by
  have := wNum_any (n : Int) ⟨by omega, by omega⟩ W (he.below h.below)
  rw [if_neg (by omega)] at this
  exact this.mono fun _ _ ⟨h1, h2⟩ => ⟨h1, h.step h2⟩
theorem BD.write {w : World} {acc : List UInt8} (s : List UInt8) (hl : acc.length + s.length ≤ 100000000) (W : World) (h : BD w acc W) : Calls Tryd.prog 50 #[.pointer (some ⟨w.heap.size, 0, none⟩), .string (bs s)] W fun e w' => e = .returned (.tuple #[.int .i64 (bs s).size, .nilIface]) ∧ BD w (acc ++ s) w' := by
  refine (Tryd.Builder_WriteString w.heap.size w.heap.size _ (bs s) W h.isb (by rw [Lib.byteCells_length, bs_size]; omega) h.below.size).mono ?_
  rintro e w' ⟨h1, h2, h3⟩
  refine ⟨h1, h.below.trans h3, ?_⟩
  have : Lib.byteCells (acc ++ s) = Lib.byteCells acc ++ Lib.strCells (bs s) := by simp [Lib.byteCells, Lib.strCells, bs]
  rw [this]
  exact .inr h2
theorem BD.cell {w wx : World} {acc : List UInt8} (h : BD w acc wx) (k o : Nat) (hk : k < w.heap.size) : wx.cell? ⟨k, o, none⟩ = w.cell? ⟨k, o, none⟩ := bcell h.below k o hk
set_option maxRecDepth 100000 in
set_option maxHeartbeats 4000000 in
theorem dbytes_any {w : World} {base b : Nat} {v : Value} {me : Int} {rs : List Rob} (h : Dk w base b v me rs) (hme : I64 me) (hr : ∀ r ∈ rs, RobI r) (hn : rs.length ≤ 10000) (he : Env w) :
    Calls Tryd.prog 13 #[.pointer (some ⟨b, 0, none⟩)] w fun e w' => e = .returned (.string (bs (encD me rs))) ∧ Below w.heap.size w w' := by
  obtain ⟨A, c, rfl, _, _, hA⟩ := h.row
  obtain ⟨d0, d1⟩ := dk2 h
  have hz := h.d.lt
  have HR := hid hr
  have HA := hid hA
  clear hr hA
  have H := hid h
  have HI := hid (fun n hn W hW => BD.int (w := w) (acc := []) he n hn W hW)
  have HI2 := hid (fun acc n hn W hW => BD.int (w := w) (acc := acc) he n hn W hW)
  have HN := hid (fun W hW => BD.num (w := w) (acc := []) he rs.length (by omega) W hW)
  have e1 := encI_le me hme
  have e2 := encI_le rs.length ⟨by omega, by omega⟩
  have s1 : (bs (encI me)).size ≤ 22 := by rw [bs_size]; exact e1
  have s2 : (bs (encI rs.length)).size ≤ 22 := by rw [bs_size]; exact e2
  have s3 : (bs (encI me) ++ bs (encI rs.length)).size ≤ 44 := by rw [bs_app, bs_size, List.length_append]; omega
  have s4 : (bs (encI me)).size + (bs (encI rs.length)).size ≤ 44 := by omega
  have s5 : ¬ (140737488355328 : Int) < ((bs (encI me)).size : Int) + (bs (encI rs.length)).size := by omega
  have HW := hid (fun W hW => BD.write (w := w) (acc := []) (encDh me rs.length) (by simp [encDh]; omega) W hW)
  have hcat := hid (show bs (encI me) ++ bs (encI rs.length) = bs (encDh me rs.length) by rw [bs_app]; rfl)
  have p0 : BD w [] (w.alloc (Obj.cells #[.pointer none, .slice none 0 0] 89)) := ⟨by (repeat (first | exact Below.refl _ _ | assumption | refine below_drewN ?_ _ | refine Below.drew ?_ | refine Below.alloc ?_ (by (try simp); (try omega)) _ | refine Below.setCell ?_ (by (try simp); (try omega)) _)), Lib.fresh_isBuilder 89 5 w⟩
  clear h e1 e2
  go_enter Tryd.func13, Tryd.ntmps13
  go_upto_region 2 with fail
  go_cut [19] (fun _ wx => BD w (encDh me rs.length) wx)
  case first =>
   go_region_with (first
    | (go_at_call 51; (with_reducible refine (HI.out _ hme _ ?_).mono ?_); (repeat (first | exact p0 | refine BD.drew ?_)); rintro e wa ⟨rfl, pa, _, _⟩; have a0 := (pa.cell b 0 hz).trans d0; have a1 := (pa.cell b 1 hz).trans d1)
    | (go_at_call 52; (with_reducible refine (HN.out _ ?_).mono ?_); (repeat (first | exact pa | refine BD.drew ?_)); rintro e wb ⟨rfl, pb⟩; have b0 := (pb.cell b 0 hz).trans d0; have b1 := (pb.cell b 1 hz).trans d1)
    | (go_at_call 50; rw [hcat.out]; (with_reducible refine (HW.out _ ?_).mono ?_); (repeat (first | exact pb | refine BD.drew ?_)); rintro e wc ⟨rfl, pc⟩; have c0 := (pc.cell b 0 hz).trans d0; have c1 := (pc.cell b 1 hz).trans d1))
   all_goals
    go_wp2_with fail
    go_meet
    exact pc
  case rest =>
    replace hcut : BD w (encDh me rs.length) wc := hcut
    clear p0 HI HN HW hcat s1 s2
    have c1 := (hcut.cell b 1 hz).trans d1
    go_wp2_with fail
    go_loopw [25] (fun i wr => ∃ k : Nat, k ≤ rs.length ∧ i = .int .i64 k ∧ BD w (encDh me rs.length ++ ((rs.take k).map encRb).flatten) wr) (fun i _ => rs.length - (intOf i).toNat)
    case atStart => exact ⟨0, by omega, rfl, by simpa using hcut⟩
    case round =>
      clear hcut c1
      obtain ⟨k, hk, rfl, hP⟩ := hrel
      by_cases hlt : k < rs.length
      · obtain ⟨g, rfl, _, hgz, _⟩ := HA.out (by intro hh; simp [hh] at hlt)
        obtain ⟨x0, x1, x2, _⟩ := H.out.at_ hlt
        have x0 := (hP.cell g (k * 3) hgz).trans x0
        have x1 := (hP.cell g (k * 3 + 1) hgz).trans x1
        have x2 := (hP.cell g (k * 3 + 2) hgz).trans x2
        have hlt' : (k : Int) < rs.length := by omega
        have hRI := HR.out _ (List.getElem_mem hlt)
        have hsn := hid (show ((rs.take (k + 1)).map encRb).flatten = ((rs.take k).map encRb).flatten ++ encRb rs[k] by
          rw [List.take_add_one, List.getElem?_eq_getElem hlt, List.map_append, List.flatten_append]; simp)
        have hlen := hid (show (encDh me rs.length ++ ((rs.take k).map encRb).flatten).length ≤ 1000000 by
          have e1 := encI_le me hme
          have e2 := encI_le rs.length ⟨by omega, by omega⟩
          have e3 := flat66 ((rs.take k).map encRb) (by
            intro y hy
            obtain ⟨x, hx, rfl⟩ := List.mem_map.1 hy
            exact encRb_le x (HR.out x (List.mem_of_mem_take hx)))
          rw [List.length_map, List.length_take] at e3
          simp only [encDh, List.length_append]
          omega)
        generalize rs[k] = r at *
        obtain ⟨p, n, f⟩ := r
        simp only at x0 x1 x2
        cases f with
        | true =>
          have he1 := encI_le p hRI.1
          have he2 := encI_le n hRI.2
          have t1 : (bs (encI p)).size ≤ 22 := by rw [bs_size]; exact he1
          have t2 : (bs (encI n)).size ≤ 22 := by rw [bs_size]; exact he2
          have t3 : (bs (encI 1)).size ≤ 22 := by rw [bs_size]; exact encI_le 1 (by simp [I64])
          have t4 : (bs (encI p) ++ bs (encI n)).size ≤ 44 := by rw [bs_app, bs_size, List.length_append]; omega
          have hc2 := hid (show bs (encI p) ++ bs (encI n) ++ bs (encI 1) = bs (encRb (p, n, true)) by rw [bs_app, bs_app]; rfl)
          have hle := encRb_le (p, n, true) hRI
          have hsn2 := hid hsn.out
          obtain ⟨acc, hacc⟩ : ∃ acc, acc = encDh me rs.length ++ ((rs.take k).map encRb).flatten := ⟨_, rfl⟩
          rw [← hacc] at hP hlen
          have Hacc := hid hacc
          clear hacc
          have HW2 := hid (fun W hW => BD.write (w := w) (acc := acc) (encRb (p, n, true)) (by have := hlen.out; omega) W hW)
          have pB := hP.alloc (Obj.cells #[.int .i64 p, .int .i64 n, .bool true] 85)
          have hzw := hP.below.size
          have I1 := hid hRI.1
          have I2 := hid hRI.2
          have I3 := hid (show I64 1 by simp [I64])
          clear he1 he2 hle hRI
          go_upto_region 9 with fail
          go_region_with (first
              | (go_at_call 51; (with_reducible refine (HI2.out acc p I1.out _ ?_).mono ?_); (repeat (first | exact pB | refine BD.drew ?_)); rintro e wa ⟨rfl, pa, ka, za⟩; have a0 := ka wr.heap.size 0 (lt_al _ _); have a1 := ka wr.heap.size 1 (lt_al _ _); have a2 := ka wr.heap.size 2 (lt_al _ _); have za := Nat.lt_of_lt_of_le (lt_al wr _) za; simp [go_sem] at a0 a1 a2)
              | (go_at_call 51; (with_reducible refine (HI2.out acc n I2.out _ ?_).mono ?_); (repeat (first | exact pa | refine BD.drew ?_)); rintro e wb ⟨rfl, pb, kb, zb⟩; have b0 := (kb wr.heap.size 0 za).trans a0; have b1 := (kb wr.heap.size 1 za).trans a1; have b2 := (kb wr.heap.size 2 za).trans a2)
              | (go_at_call 51; (with_reducible refine (HI2.out acc 1 I3.out _ ?_).mono ?_); (repeat (first | exact pb | refine BD.drew ?_)); rintro e wd ⟨rfl, pd, _, _⟩)
              | (go_at_call 50; rw [hc2.out]; (with_reducible refine (HW2.out _ ?_).mono ?_); (repeat (first | exact pd | refine BD.drew ?_)); rintro e we ⟨rfl, pe⟩))
          all_goals
            have pe2 := hid pe
            clear pe
            go_wp2_with fail
            go_roundw
            case rel => exact ⟨k + 1, by omega, by go_num, by rw [hsn2.out, ← List.append_assoc, ← Hacc.out]; exact pe2.out⟩
            case measure => simp [intOf]; omega
        | false =>
          have he1 := encI_le p hRI.1
          have he2 := encI_le n hRI.2
          have t1 : (bs (encI p)).size ≤ 22 := by rw [bs_size]; exact he1
          have t2 : (bs (encI n)).size ≤ 22 := by rw [bs_size]; exact he2
          have t3 : (bs (encI 0)).size ≤ 22 := by rw [bs_size]; exact encI_le 0 (by simp [I64])
          have t4 : (bs (encI p) ++ bs (encI n)).size ≤ 44 := by rw [bs_app, bs_size, List.length_append]; omega
          have hc2 := hid (show bs (encI p) ++ bs (encI n) ++ bs (encI 0) = bs (encRb (p, n, false)) by rw [bs_app, bs_app]; rfl)
          have hle := encRb_le (p, n, false) hRI
          have hsn2 := hid hsn.out
          obtain ⟨acc, hacc⟩ : ∃ acc, acc = encDh me rs.length ++ ((rs.take k).map encRb).flatten := ⟨_, rfl⟩
          rw [← hacc] at hP hlen
          have Hacc := hid hacc
          clear hacc
          have HW2 := hid (fun W hW => BD.write (w := w) (acc := acc) (encRb (p, n, false)) (by have := hlen.out; omega) W hW)
          have pB := hP.alloc (Obj.cells #[.int .i64 p, .int .i64 n, .bool false] 85)
          have hzw := hP.below.size
          have I1 := hid hRI.1
          have I2 := hid hRI.2
          have I3 := hid (show I64 0 by simp [I64])
          clear he1 he2 hle hRI
          go_upto_region 9 with fail
          go_region_with (first
              | (go_at_call 51; (with_reducible refine (HI2.out acc p I1.out _ ?_).mono ?_); (repeat (first | exact pB | refine BD.drew ?_)); rintro e wa ⟨rfl, pa, ka, za⟩; have a0 := ka wr.heap.size 0 (lt_al _ _); have a1 := ka wr.heap.size 1 (lt_al _ _); have a2 := ka wr.heap.size 2 (lt_al _ _); have za := Nat.lt_of_lt_of_le (lt_al wr _) za; simp [go_sem] at a0 a1 a2)
              | (go_at_call 51; (with_reducible refine (HI2.out acc n I2.out _ ?_).mono ?_); (repeat (first | exact pa | refine BD.drew ?_)); rintro e wb ⟨rfl, pb, kb, zb⟩; have b0 := (kb wr.heap.size 0 za).trans a0; have b1 := (kb wr.heap.size 1 za).trans a1; have b2 := (kb wr.heap.size 2 za).trans a2)
              | (go_at_call 51; (with_reducible refine (HI2.out acc 0 I3.out _ ?_).mono ?_); (repeat (first | exact pb | refine BD.drew ?_)); rintro e wd ⟨rfl, pd, _, _⟩)
              | (go_at_call 50; rw [hc2.out]; (with_reducible refine (HW2.out _ ?_).mono ?_); (repeat (first | exact pd | refine BD.drew ?_)); rintro e we ⟨rfl, pe⟩))
          all_goals
            have pe2 := hid pe
            clear pe
            go_wp2_with fail
            go_roundw
            case rel => exact ⟨k + 1, by omega, by go_num, by rw [hsn2.out, ← List.append_assoc, ← Hacc.out]; exact pe2.out⟩
            case measure => simp [intOf]; omega
      · obtain rfl : k = rs.length := by omega
        rw [List.take_length] at hP
        go_wp2_with fail
        refine (Tryd.Builder_String_any w.heap.size w.heap.size _ wr hP.isb hP.below.size).mono ?_
        rintro e w9 ⟨rfl, hB⟩
        go_wp2_with fail
        go_ret
        exact ⟨ret_str (by unfold encD; rfl), hP.below.trans hB⟩
end Go.Proofs.YtfofmbmmighdiaaDoor
