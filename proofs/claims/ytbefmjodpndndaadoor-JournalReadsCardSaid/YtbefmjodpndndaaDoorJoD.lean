
/- Journal: numbers of a value; read. -/
import Derived.Test.YtbefmjodpndndaaDoorJoC
import Derived.Test.YtbefmjodpndndaaDoorEncR
import Derived.Test.YtbefmjodpndndaaDoorEncB
import Derived.Deep.CutBlock
import Derived.WalkMore
set_option linter.unusedSimpArgs false
set_option linter.unusedVariables false
namespace Go.Proofs.YtbefmjodpndndaaDoor
open Go.RowKit Go.IntWalk

theorem or_i64_nat (a b : Nat) (ha : a < 4611686018427387904) (hb : b < 4611686018427387904) : bits .or .i64 (a : Int) (b : Int) = ((a ||| b : Nat) : Int) := by
  have hx : a ||| b < 2 ^ 62 := Nat.or_lt_two_pow (by omega) (by omega)
  have h1 : (BitVec.ofInt 64 (a : Int)).toNat = a := by
    rw [BitVec.ofInt_natCast, BitVec.toNat_ofNat]; exact Nat.mod_eq_of_lt (by omega)
  have h2 : (BitVec.ofInt 64 (b : Int)).toNat = b := by
    rw [BitVec.ofInt_natCast, BitVec.toNat_ofNat]; exact Nat.mod_eq_of_lt (by omega)
  show IntKind.i64.wrap ((BitVec.ofInt 64 (a : Int) ||| BitVec.ofInt 64 (b : Int)).toNat : Int) = _
  rw [BitVec.toNat_or, h1, h2]
  exact i64_in _ (by omega)
theorem or_256 (x y : Nat) (hx : x ≤ 65536) (hy : y < 256) : bits .or .i64 ((x * 256 : Nat) : Int) (y : Int) = ((x * 256 + y : Nat) : Int) := by
  rw [or_i64_nat _ _ (by omega) (by omega)]
  have h := Nat.shiftLeft_add_eq_or_of_lt (b := y) (i := 8) (by omega) x
  simp only [Nat.shiftLeft_eq, Nat.reducePow] at h
  rw [h]
set_option maxRecDepth 100000 in
set_option maxHeartbeats 4000000 in
set_option maxRecDepth 100000 in
/-- A cell that says nothing. -/
theorem copen_none (b base : Nat) (L : DL) (s : DS) (N : Nat) (f : Int) (w : World) (h : Dsk w base b L s N) (hd : s.down = false) (hf : 0 ≤ f ∧ f < 16) (hc : (s.fl f).1.getD 0 0 = 0) :
    Calls Tryd.prog 34 #[.pointer (some ⟨b, 0, none⟩), .int .i64 f] w fun e w' => e = .returned (.tuple #[.pointer (some ⟨w.heap.size, 0, none⟩), .int .i64 0]) ∧ Cel w' w.heap.size b f 0 [] false ∧ Below w.heap.size w w' := by
  obtain ⟨w1, hw1⟩ : ∃ w1, w1 = w.alloc (Obj.cells #[.pointer (some ⟨b, 0, none⟩), .int .i64 f, .int .i64 0, .string { data := #[] }, .bool false] 86) := ⟨_, rfl⟩
  have B1 := hid (show Below w.heap.size w w1 by rw [hw1]; (repeat (first | exact Below.refl _ _ | assumption | refine below_drewN ?_ _ | refine Below.drew ?_ | refine Below.alloc ?_ (by (try simp); (try omega)) _ | refine Below.setCell ?_ (by (try simp); (try omega)) _)))
  have X1 := hid (show Cel w1 w.heap.size b f 0 [] false by rw [hw1]; exact Blk.new w _ _)
  have H1 := h.below B1.out
  have HR := hid (read_up b base L s N f 0 5 w1 H1 hd hf (by omega) (by omega))
  clear h H1 hd hf
  generalize (s.fl f).1 = c at *
  rw [List.drop_zero] at HR
  cases c with
  | nil =>
    rw [List.take_nil] at HR
    have e0 : (bs []).toList.isEmpty = true := by rw [bs_tl]; rfl
    go_enter Tryd.func34, Tryd.ntmps34
    go_upto_region 2 with fail
    rw [← hw1]
    clear hw1
    go_wp2_with fail
    refine HR.out.mono ?_
    rintro e w2 ⟨rfl, rfl⟩
    go_wp2_with fail
    go_ret2
    exact ⟨rfl, X1.out, B1.out⟩
  | cons x r =>
    have hx : x = 0 := hc
    subst hx
    have e1 : (0 :: r).take 5 = 0 :: r.take 4 := rfl
    rw [e1] at HR
    obtain ⟨t, ht⟩ : ∃ t, t = bs (0 :: r.take 4) := ⟨_, rfl⟩
    have h0 : t.toList.isEmpty = false := by rw [ht, bs_tl]; rfl
    have hsz : 0 < t.size := by rw [ht, bs_size]; simp
    have h1 : t[0] = 0 := by subst ht; exact bs_get0 0 _
    rw [← ht] at HR
    clear ht hc
    go_enter Tryd.func34, Tryd.ntmps34
    go_upto_region 2 with fail
    rw [← hw1]
    clear hw1
    go_wp2_with fail
    refine HR.out.mono ?_
    rintro e w2 ⟨rfl, rfl⟩
    go_wp2_with fail
    go_ret2
    exact ⟨rfl, X1.out, B1.out⟩
end Go.Proofs.YtbefmjodpndndaaDoor
namespace Go.Proofs.YtbefmjodpndndaaDoor
open Go.RowKit Go.IntWalk

theorem mkN_le (n : Nat) : ∀ k, mkN n k ≤ n
  | 0 => Nat.le_refl _
  | k + 1 => Nat.le_trans (Nat.div_le_self _ _) (mkN_le n k)
theorem hdr_get (slot n k : Nat) (hk : k < 4) : (hdr slot n)[k + 1]'(by rw [hdr_len]; omega) = UInt8.ofNat (mkN n k) := by
  have : k = 0 ∨ k = 1 ∨ k = 2 ∨ k = 3 := by omega
  rcases this with rfl | rfl | rfl | rfl <;> simp [hdr, mkN, Nat.div_div_eq_div_mul]
set_option maxRecDepth 100000 in
set_option maxHeartbeats 4000000 in
theorem copen_some (b base : Nat) (L : DL) (s : DS) (N : Nat) (f : Int) (slot : Nat) (v : Bs) (w : World) (h : Dsk w base b L s N) (hd : s.down = false) (hf : 0 ≤ f ∧ f < 16) (hO : OffE w) (hs : slot = 1 ∨ slot = 2) (hv : v.length ≤ 65536) (h1 : Has (s.fl f).1 0 (hdr slot v.length)) (h2 : Has (s.fl f).1 (offs slot) v) :
    Calls Tryd.prog 34 #[.pointer (some ⟨b, 0, none⟩), .int .i64 f] w fun e w' => e = .returned (.tuple #[.pointer (some ⟨w.heap.size, 0, none⟩), .int .i64 0]) ∧ Cel w' w.heap.size b f slot v false ∧ Below w.heap.size w w' := by
  obtain ⟨w1, hw1⟩ : ∃ w1, w1 = w.alloc (Obj.cells #[.pointer (some ⟨b, 0, none⟩), .int .i64 f, .int .i64 0, .string { data := #[] }, .bool false] 86) := ⟨_, rfl⟩
  have B1 := hid (show Below w.heap.size w w1 by rw [hw1]; (repeat (first | exact Below.refl _ _ | assumption | refine below_drewN ?_ _ | refine Below.drew ?_ | refine Below.alloc ?_ (by (try simp); (try omega)) _ | refine Below.setCell ?_ (by (try simp); (try omega)) _)))
  have X1 := hid (show Blk w1 w.heap.size 86 #[.pointer (some ⟨b, 0, none⟩), .int .i64 f, .int .i64 0, .string { data := #[] }, .bool false] by rw [hw1]; exact Blk.new w _ _)
  have H1 := hid (h.below B1.out)
  have HR := hid (read_up b base L s N f 0 5 w1 H1.out hd hf (by omega) (by omega))
  have hh : ((s.fl f).1.drop 0).take 5 = hdr slot v.length := h1.eq
  have hh2 : ((s.fl f).1.drop (offs slot)).take v.length = v := h2.eq
  rw [hh] at HR
  have hof : offs slot ≤ 131072 := by unfold offs; split <;> omega
  have HR2 := hid (fun (w2 : World) (h9 : Dsk w2 base b L s N) => read_up b base L s N f (offs slot) v.length w2 h9 hd hf (by omega) (by omega))
  rw [hh2] at HR2
  have HO := hid hO
  clear h hd hf hO h1 h2 hh hh2
  obtain ⟨n, hn⟩ : ∃ n, n = v.length := ⟨_, rfl⟩
  rw [← hn] at HR HR2 hv
  have HN := hid hn
  clear hn
  obtain ⟨t, ht⟩ : ∃ t, t = bs (hdr slot n) := ⟨_, rfl⟩
  have hsz : t.size = 5 := by rw [ht, bs_size, hdr_len]
  have h0 : t.toList.isEmpty = false := by rw [ht, bs_tl]; rfl
  have HT := hid (show ∀ k (hk : k < 4), t[k + 1]'(by rw [hsz]; omega) = UInt8.ofNat (mkN n k) from fun k hk => by subst ht; rw [bs_get _ _ (by rw [hdr_len]; omega)]; exact hdr_get slot n k hk)
  have ht0 : t[0]'(by rw [hsz]; omega) = UInt8.ofNat slot := by subst ht; rw [bs_get _ _ (by rw [hdr_len]; omega)]; rfl
  rw [← ht] at HR
  clear ht
  have hs0 : t[0]'(by rw [hsz]; omega) ≠ 0 := by rw [ht0]; rcases hs with rfl | rfl <;> decide
  have hs1 : ¬ (t[0]'(by rw [hsz]; omega) ≠ 1 ∧ t[0]'(by rw [hsz]; omega) ≠ 2) := by rw [ht0]; rcases hs with rfl | rfl <;> decide
  go_enter Tryd.func34, Tryd.ntmps34
  go_upto_region 2 with fail
  rw [← hw1]
  clear hw1
  go_wp2_with fail
  refine HR.out.mono ?_
  rintro e w2 ⟨rfl, rfl⟩
  rcases hs with rfl | rfl
  · --1
    go_upto_region 9 with fail
    have hm4 : mkN n 4 = 0 := by simp only [mkN]; omega
    have HM4 := hid hm4
    clear hm4 hs0 hs1
    go_wp2_with fail
    go_loopw [9, 10] (fun nv iv wr => ∃ j : Nat, j ≤ 4 ∧ iv = .int .i64 (j : Int) ∧ nv = .int .i64 ((mkN n j : Nat) : Int) ∧ wr = w1) (fun _ iv _ => (intOf iv).toNat)
    case atStart => exact ⟨4, by omega, rfl, by rw [HM4.out]; rfl, rfl⟩
    case round =>
      obtain ⟨j, hj, rfl, rfl, rfl⟩ := hrel
      cases j with
      | zero =>
        have hmn : mkN n 0 = n := rfl
        rw [hmn]
        clear hmn
        have c2 := X1.out.cell 2
        have c3 := X1.out.cell 3
        have cl := X1.out.lt
        have cf := X1.out.frozen
        simp at c2 c3
        have hnn : n ≤ 65536 := hv
        go_upto_region 17 with fail
        have hgl := HO.out.lt
        have hGB := hid (show Below w.heap.size w (wr.setCell ⟨w.heap.size, 2, none⟩ (.int .i64 1)) from B1.out.setCell (by simp) _)
        have g1 := (bcell hGB.out 0 1 hgl).trans HO.out.2.1
        have X2 := hid (show Blk (wr.setCell ⟨w.heap.size, 2, none⟩ (.int .i64 1)) w.heap.size 86 #[.pointer (some ⟨b, 0, none⟩), .int .i64 f, .int .i64 1, .string { data := #[] }, .bool false] by simpa using X1.out.set_ 2 (.int .i64 1))
        have H2 := hid (H1.out.chg (Chg.of_grown (gr_set wr w.heap.size 2 (.int .i64 1)) (S := fun k => k = w.heap.size) (fun k e => by injection e)) (H1.out.ne_blk X1.out (by decide) (by decide) (by decide)))
        have HRd := hid (show Calls Tryd.prog 36 #[.pointer (some ⟨b, 0, none⟩), .int .i64 f, .int .i64 64, .int .i64 (n : Int)] (wr.setCell ⟨w.heap.size, 2, none⟩ (.int .i64 1)) fun e w' => e = .returned (.tuple #[.string (bs v), .int .i64 0]) ∧ (wr.setCell ⟨w.heap.size, 2, none⟩ (.int .i64 1)) = w' from HR2.out _ H2.out)
        clear c2 c3 cl cf X1 H1 B1
        generalize (wr.setCell ⟨w.heap.size, 2, none⟩ (.int .i64 1)) = w3 at *
        have d2 := X2.out.cell 2; have d3 := X2.out.cell 3; have dl := X2.out.lt; have df := X2.out.frozen
        simp at d2 d3
        have hvs : (bs v).size = n := by rw [bs_size, HN.out]
        have X4 := hid (show Cel (w3.setCell ⟨w.heap.size, 3, none⟩ (.string (bs v))) w.heap.size b f 1 v false from by have := X2.out.set_ 3 (.string (bs v)); simp at this; exact this)
        have HB4 := hid (show Below w.heap.size w (w3.setCell ⟨w.heap.size, 3, none⟩ (.string (bs v))) from hGB.out.setCell (by simp) _)
        go_wp2_with fail
        refine HRd.out.mono ?_
        rintro e w4 ⟨rfl, rfl⟩
        go_wp2_with fail
        go_ret2
        exact ⟨rfl, X4.out, HB4.out⟩
      | succ j =>
        have hmj := mkN_le n (j + 1)
        have htj := HT.out j (by omega)
        obtain ⟨i, hi⟩ : ∃ i, i = j + 1 := ⟨_, rfl⟩
        have hi5 : i < t.size := by omega
        have hti : t[i] = UInt8.ofNat (mkN n j) := by subst hi; exact htj
        have HTI := hid hti
        obtain ⟨m, hm⟩ : ∃ m, m = mkN n (j + 1) := ⟨_, rfl⟩
        have HM := hid hm
        have hmb : m ≤ 65536 := by omega
        rw [← hm, ← hi]
        have HI := hid hi
        have hi1 : 0 < i := by omega
        have hi4 : i < 5 := by omega
        clear hmj htj hti hm hi
        go_wp2_with fail
        refine ⟨⟨j, by omega, by rw [HI.out]; congr 1; omega, ?_, trivial⟩, by rw [HI.out]; simp only [intOf]; omega⟩
        have hlt := UInt8.toNat_lt t[i]
        have hw : wrap64 ((t[i].toNat : Nat) : Int) = (t[i].toNat : Int) := wrap64_in _ (by omega)
        rw [hw, show (m : Int) * 256 = ((m * 256 : Nat) : Int) by omega, or_256 m t[i].toNat (by omega) hlt, HTI.out, UInt8.toNat_ofNat', HM.out]
        simp only [mkN]
        congr 2
        omega
  · --2
    go_upto_region 9 with fail
    have hm4 : mkN n 4 = 0 := by simp only [mkN]; omega
    have HM4 := hid hm4
    clear hm4 hs0 hs1
    go_wp2_with fail
    go_loopw [9, 10] (fun nv iv wr => ∃ j : Nat, j ≤ 4 ∧ iv = .int .i64 (j : Int) ∧ nv = .int .i64 ((mkN n j : Nat) : Int) ∧ wr = w1) (fun _ iv _ => (intOf iv).toNat)
    case atStart => exact ⟨4, by omega, rfl, by rw [HM4.out]; rfl, rfl⟩
    case round =>
      obtain ⟨j, hj, rfl, rfl, rfl⟩ := hrel
      cases j with
      | zero =>
        have hmn : mkN n 0 = n := rfl
        rw [hmn]
        clear hmn
        have c2 := X1.out.cell 2
        have c3 := X1.out.cell 3
        have cl := X1.out.lt
        have cf := X1.out.frozen
        simp at c2 c3
        have hnn : n ≤ 65536 := hv
        go_upto_region 17 with fail
        have hgl := HO.out.lt
        have hGB := hid (show Below w.heap.size w (wr.setCell ⟨w.heap.size, 2, none⟩ (.int .i64 2)) from B1.out.setCell (by simp) _)
        have g1 := (bcell hGB.out 0 2 hgl).trans HO.out.2.2
        have X2 := hid (show Blk (wr.setCell ⟨w.heap.size, 2, none⟩ (.int .i64 2)) w.heap.size 86 #[.pointer (some ⟨b, 0, none⟩), .int .i64 f, .int .i64 2, .string { data := #[] }, .bool false] by simpa using X1.out.set_ 2 (.int .i64 2))
        have H2 := hid (H1.out.chg (Chg.of_grown (gr_set wr w.heap.size 2 (.int .i64 2)) (S := fun k => k = w.heap.size) (fun k e => by injection e)) (H1.out.ne_blk X1.out (by decide) (by decide) (by decide)))
        have HRd := hid (show Calls Tryd.prog 36 #[.pointer (some ⟨b, 0, none⟩), .int .i64 f, .int .i64 131072, .int .i64 (n : Int)] (wr.setCell ⟨w.heap.size, 2, none⟩ (.int .i64 2)) fun e w' => e = .returned (.tuple #[.string (bs v), .int .i64 0]) ∧ (wr.setCell ⟨w.heap.size, 2, none⟩ (.int .i64 2)) = w' from HR2.out _ H2.out)
        clear c2 c3 cl cf X1 H1 B1
        generalize (wr.setCell ⟨w.heap.size, 2, none⟩ (.int .i64 2)) = w3 at *
        have d2 := X2.out.cell 2; have d3 := X2.out.cell 3; have dl := X2.out.lt; have df := X2.out.frozen
        simp at d2 d3
        have hvs : (bs v).size = n := by rw [bs_size, HN.out]
        have X4 := hid (show Cel (w3.setCell ⟨w.heap.size, 3, none⟩ (.string (bs v))) w.heap.size b f 2 v false from by have := X2.out.set_ 3 (.string (bs v)); simp at this; exact this)
        have HB4 := hid (show Below w.heap.size w (w3.setCell ⟨w.heap.size, 3, none⟩ (.string (bs v))) from hGB.out.setCell (by simp) _)
        go_wp2_with fail
        refine HRd.out.mono ?_
        rintro e w4 ⟨rfl, rfl⟩
        go_wp2_with fail
        go_ret2
        exact ⟨rfl, X4.out, HB4.out⟩
      | succ j =>
        have hmj := mkN_le n (j + 1)
        have htj := HT.out j (by omega)
        obtain ⟨i, hi⟩ : ∃ i, i = j + 1 := ⟨_, rfl⟩
        have hi5 : i < t.size := by omega
        have hti : t[i] = UInt8.ofNat (mkN n j) := by subst hi; exact htj
        have HTI := hid hti
        obtain ⟨m, hm⟩ : ∃ m, m = mkN n (j + 1) := ⟨_, rfl⟩
        have HM := hid hm
        have hmb : m ≤ 65536 := by omega
        rw [← hm, ← hi]
        have HI := hid hi
        have hi1 : 0 < i := by omega
        have hi4 : i < 5 := by omega
        clear hmj htj hti hm hi
        go_wp2_with fail
        refine ⟨⟨j, by omega, by rw [HI.out]; congr 1; omega, ?_, trivial⟩, by rw [HI.out]; simp only [intOf]; omega⟩
        have hlt := UInt8.toNat_lt t[i]
        have hw : wrap64 ((t[i].toNat : Nat) : Int) = (t[i].toNat : Int) := wrap64_in _ (by omega)
        rw [hw, show (m : Int) * 256 = ((m * 256 : Nat) : Int) by omega, or_256 m t[i].toNat (by omega) hlt, HTI.out, UInt8.toNat_ofNat', HM.out]
        simp only [mkN]
        congr 2
        omega
end Go.Proofs.YtbefmjodpndndaaDoor
namespace Go.Proofs.YtbefmjodpndndaaDoor
open Go.RowKit Go.IntWalk

/-- The form of a list of strings. -/
def formB (l : List ByteArray) : Bs := (l.map fun s => encT s.data.toList).flatten
theorem form_take (l : List ByteArray) (k : Nat) (h : k < l.length) : formB (l.take (k + 1)) = formB (l.take k) ++ encT l[k].data.toList := flat_snoc3 _ l k h
theorem form_take_le (l : List ByteArray) (k : Nat) : (formB (l.take k)).length ≤ (formB l).length := flat_take _ l k
set_option maxRecDepth 100000 in
set_option maxHeartbeats 4000000 in
theorem form_any (A : Option Addr) (c : Nat) (l : List ByteArray) (w : World) (hl : l.length ≤ maxLen) (hs : SlR w w.heap.size A l) (he : Env w) (hb : (formB l).length ≤ 100000000) (hsz : ∀ s ∈ l, s.size ≤ 100000000) :
    Calls Tryd.prog 41 #[.slice A l.length c] w fun e w' => e = .returned (.string (bs (formB l))) ∧ Below w.heap.size w w' := by
  have HS := hid (fun (W : World) (hW : Below w.heap.size w W) => (hs.below hW).more hW.size)
  have HE := hid he
  have HB := hid hb
  have HZ := hid hsz
  have hl63 := hl
  unfold maxLen at hl63
  clear hs he hb hsz hl
  go_enter Tryd.func41, Tryd.ntmps41
  go_wp2_with fail
  go_loopw [8] (fun i wr => ∃ k : Nat, k ≤ l.length ∧ i = .int .i64 (k : Nat) ∧ BW w (formB (l.take k)) wr) (fun i _ => l.length - (intOf i).toNat)
  case atStart => exact ⟨0, by omega, rfl, BW.fresh w⟩
  case round =>
    obtain ⟨k, hk, rfl, hW⟩ := hrel
    have HW := hid hW
    clear hW
    by_cases hlt : k < l.length
    case neg =>
      obtain rfl : k = l.length := by omega
      have ht : formB (l.take l.length) = formB l := by rw [List.take_length]
      go_wp2_with fail
      refine (HW.out.str wr).mono ?_
      rintro e w2 ⟨rfl, hB⟩
      have HB2 := hid hB
      clear hB
      go_wp2_with fail
      go_ret
      exact ⟨rfl, HB2.out⟩
    case pos =>
    have hltI : (k : Int) < l.length := by omega
    obtain ⟨b, off, rfl, hb, hc⟩ := (HS.out wr HW.out.below).str hlt
    have HT := hid (wText_any l[k] (by have := HZ.out _ (List.getElem_mem hlt); omega) wr (HE.out.below HW.out.below))
    have hfl := form_take l k hlt
    have hle := Nat.le_trans (form_take_le l (k + 1)) HB.out
    rw [hfl, List.length_append] at hle
    have HFL := hid hfl
    have HLE := hid hle
    clear hfl hle
    generalize encT l[k].data.toList = et at *
    generalize formB (l.take k) = acc at *
    go_wp2_with fail
    refine HT.out.mono ?_
    rintro e w2 ⟨rfl, hB⟩
    have HW2 := hid (HW.out.step hB)
    clear hB
    go_wp2_with fail
    refine (BW.write et (by have := HLE.out; omega) w2 HW2.out).mono ?_
    rintro e w3 ⟨rfl, hW3⟩
    have HW3 := hid hW3
    clear hW3
    go_wp2_with fail
    go_roundw
    case rel => exact ⟨k + 1, by omega, by go_num, by rw [HFL.out]; exact HW3.out⟩
    case measure => simp [intOf]; omega
end Go.Proofs.YtbefmjodpndndaaDoor
namespace Go.Proofs.YtbefmjodpndndaaDoor
open Go.RowKit Go.IntWalk

set_option maxRecDepth 100000 in
theorem numbers_none (cb b : Nat) (f : Int) (sure : Bool) (w : World) (h : Cel w cb b f 0 [] sure) :
    Calls Tryd.prog 35 #[.pointer (some ⟨cb, 0, none⟩)] w fun e w' => e = .returned (.tuple #[.int .i64 0, .int .i64 0, .bool true]) ∧ Below w.heap.size w w' := by
  have HG := hid (cget_any cb b f 0 [] sure w h)
  clear h
  go_enter Tryd.func35, Tryd.ntmps35
  go_wp2_with fail
  refine HG.out.mono ?_
  rintro e w2 ⟨rfl, hB⟩
  have HB := hid hB
  clear hB
  go_wp2_with fail
  go_ret3
  exact ⟨rfl, HB.out⟩
end Go.Proofs.YtbefmjodpndndaaDoor
namespace Go.Proofs.YtbefmjodpndndaaDoor
open Go.RowKit Go.IntWalk

/-- The file f holds x, the others are as at first. -/
def St (s0 s1 : DS) (f : Int) (x : Fl) : Prop := s1.down = false ∧ s1.fl = fun y => if y = f then x else s0.fl y
theorem St.start {s : DS} {f : Int} (hd : s.down = false) {c : Bs} (h1 : (s.fl f).1 = c) (h2 : (s.fl f).2 = c) : St s s f (c, c) := by
  refine ⟨hd, ?_⟩
  funext y
  split
  · rename_i e
    rw [e]
    exact Prod.ext h1 h2
  · rfl
theorem St.at_ {s0 s1 : DS} {f : Int} {x : Fl} (h : St s0 s1 f x) : s1.fl f = x := by rw [h.2]; exact if_pos rfl
theorem St.off {s0 s1 : DS} {f g : Int} {x : Fl} (h : St s0 s1 f x) (hg : g ≠ f) : s1.fl g = s0.fl g := by rw [h.2]; exact if_neg hg
/-- What may be left where the call fails. -/
def CE (s0 s' : DS) (f : Int) (slot : Nat) (v v' : Bs) : Prop := (∀ g, g ≠ f → ∀ c, Poss s' g c → Poss s0 g c) ∧ ∀ c, Poss s' f c → CellSays c slot v ∨ CellSays c (nslot slot) v'
theorem CE.shr {s0 s1 s' : DS} {f : Int} {slot : Nat} {v v' : Bs} (h : CE s0 s1 f slot v v') (hs : Shr s1 s') : CE s0 s' f slot v v' :=
  ⟨fun g hg c hc => h.1 g hg c (hs g c hc), fun c hc => h.2 c (hs f c hc)⟩
theorem CE.of_fl {s0 s1 : DS} {f : Int} {slot : Nat} {v v' now last : Bs} (hf : s1.fl = fun y => if y = f then (now, last) else s0.fl y) (h : ∀ c, c = now ∨ Mix last now c → CellSays c slot v ∨ CellSays c (nslot slot) v') : CE s0 s1 f slot v v' := by
  refine ⟨fun g hg c hc => ?_, fun c hc => ?_⟩
  · unfold Poss at hc ⊢
    rw [hf] at hc
    simp only [if_neg hg] at hc
    exact hc
  · unfold Poss at hc
    rw [hf] at hc
    simp only [if_true] at hc
    exact h c hc
theorem St.sync {s0 s1 s2 : DS} {f e : Int} {now last : Bs} (h : St s0 s1 f (now, last)) (hs : SyR s1 f e s2) : (e = 0 → St s0 s2 f (now, now)) ∧ Shr s1 s2 ∧ (e = 0 ∨ e = 9 ∨ e = 10) ∧ (Calm s1 → e = 0 ∧ Calm s2) := by
  obtain ⟨h1, h2, h3, h4⟩ := hs.spec
  refine ⟨fun he => ?_, h1, h2, h4⟩
  obtain ⟨_, hd, hfl⟩ := h3 he
  refine ⟨hd, ?_⟩
  rw [hfl]
  funext y
  split
  · rw [h.at_]
  · rename_i hy
    exact h.off hy
theorem St.write {s0 s1 s2 : DS} {f e : Int} {now last t : Bs} {p : Nat} (h : St s0 s1 f (now, last)) (hw : WrR s1 f p t e s2) : (e = 0 → St s0 s2 f (putL now p t, last)) ∧ (e = 0 ∨ e = 9) ∧ (Calm s1 → e = 0 ∧ Calm s2) ∧ ∃ sm : DS, (sm.fl = fun y => if y = f then (putL now p t, last) else s0.fl y) ∧ Shr sm s2 := by
  obtain ⟨h1, h2, h3, h4⟩ := hw.spec h.1
  have hfl : (wrS s1 f p t).fl = fun y => if y = f then (putL now p t, last) else s0.fl y := by
    unfold wrS
    simp only
    funext y
    split
    · rw [h.at_]
    · rename_i hy
      exact h.off hy
  exact ⟨fun he => ⟨(h2 he).1, (h2 he).2.trans hfl⟩, h1, h4, wrS s1 f p t, hfl, h3⟩
/-- The stages. -/
theorem ce_start {s0 s1 : DS} {f : Int} {slot : Nat} {v v' c0 : Bs} (h : St s0 s1 f (c0, c0)) (hs : CellSays c0 slot v) : CE s0 s1 f slot v v' := by
  refine CE.of_fl h.2 fun c hc => .inl ?_
  rcases hc with rfl | hc
  · exact hs
  · rw [hc.same]; exact hs
theorem ce_value {s0 s1 : DS} {f : Int} {slot : Nat} {v v' c0 : Bs} (h : s1.fl = fun y => if y = f then (putL c0 (offs (nslot slot)) v', c0) else s0.fl y) (hs : CellSays c0 slot v) (hv' : v'.length ≤ 65536) : CE s0 s1 f slot v v' := by
  refine CE.of_fl h fun c hc => .inl ?_
  have h2 := says_other hs hv'
  rcases hc with rfl | hc
  · exact h2
  · exact says_mix (putL_ge _ _ _) hc hs h2
theorem ce_value2 {s0 s1 : DS} {f : Int} {slot : Nat} {v v' c0 : Bs} (h : St s0 s1 f (putL c0 (offs (nslot slot)) v', putL c0 (offs (nslot slot)) v')) (hs : CellSays c0 slot v) (hv' : v'.length ≤ 65536) : CE s0 s1 f slot v v' := ce_start h (says_other hs hv')
theorem ce_header {s0 s1 : DS} {f : Int} {slot : Nat} {v v' c0 : Bs} (h : s1.fl = fun y => if y = f then (putL (putL c0 (offs (nslot slot)) v') 0 (hdr (nslot slot) v'.length), putL c0 (offs (nslot slot)) v') else s0.fl y) (hs : CellSays c0 slot v) (hv' : v'.length ≤ 65536) (h0 : v' ≠ []) : CE s0 s1 f slot v v' := by
  have hh : Has (putL c0 (offs (nslot slot)) v') (offs (nslot slot)) v' := Has.put _ _ _ (fun e => absurd e h0)
  refine CE.of_fl h fun c hc => ?_
  rcases hc with rfl | hc
  · exact .inr (says_header (nslot_or slot) hv' hh)
  · exact says_torn (says_other hs hv') hv' hh hc
/-- What Set does. -/
structure CSet (s s' : DS) (f : Int) (slot : Nat) (v v' : Bs) (e : Int) : Prop where
  ok : e = 0 → ∃ c2, St s s' f (c2, c2) ∧ CellSays c2 (nslot slot) v'
  err : e ≠ 0 → (e = 9 ∨ e = 10) ∧ CE s s' f slot v v'
  calm : Calm s → e = 0 ∧ Calm s'
end Go.Proofs.YtbefmjodpndndaaDoor
namespace Go.Proofs.YtbefmjodpndndaaDoor
open Go.RowKit Go.IntWalk

theorem toList_bs (l : Bs) : (bs l).data.toList = l := by simp [bs]
def numsF (v : Bs) : Int × Int × Bool := ((rN (v, false)).1, (rN (rN (v, false)).2).1, !(rN (rN (v, false)).2).2.2 && (rN (rN (v, false)).2).2.1.isEmpty)
set_option maxRecDepth 100000 in
set_option maxHeartbeats 2000000 in
theorem numbers_some (cb b : Nat) (f : Int) (slot : Nat) (v : Bs) (sure : Bool) (w : World) (h : Cel w cb b f slot v sure) (hs : 0 < slot) (hv : v.length ≤ 65536) (he : Env w) :
    Calls Tryd.prog 35 #[.pointer (some ⟨cb, 0, none⟩)] w fun e w' => e = .returned (.tuple #[.int .i64 (numsF v).1, .int .i64 (numsF v).2.1, .bool (numsF v).2.2]) ∧ Below w.heap.size w w' := by
  have HG := cget_any cb b f slot v sure w h
  rw [decide_eq_true hs] at HG
  have HG := hid HG
  have HE := hid he
  unfold numsF
  obtain ⟨a, s1, hr1⟩ : ∃ n s, rN (v, false) = (n, s) := ⟨_, _, rfl⟩
  have c1 := rNum_f (v, false) (by simp only; omega)
  have l1 := rN_le (v, false)
  rw [hr1] at c1 l1 ⊢
  simp only at c1 l1 ⊢
  obtain ⟨a2, s2, hr2⟩ : ∃ n s, rN s1 = (n, s) := ⟨_, _, rfl⟩
  have c2 := rNum_f s1 (by omega)
  rw [hr2] at c2 ⊢
  simp only at c2 ⊢
  have C1 := hid c1
  have C2 := hid c2
  have HT := hid (toList_bs v)
  clear hr1 hr2 c1 c2 l1 he h hs hv
  go_enter Tryd.func35, Tryd.ntmps35
  go_wp2_with fail
  refine HG.out.mono ?_
  rintro e w2 ⟨rfl, hB⟩
  have B2 := hid hB
  clear hB
  go_wp2_with fail
  refine (open_any (bs v) w2).mono ?_
  rintro e w3 ⟨rfl, hR, hB⟩
  rw [HT.out] at hR
  have R3 := hid hR
  have B3 := hid (B2.out.trans (hB.mono B2.out.size))
  have hrb := hid B2.out.size
  clear hB hR
  generalize w2.heap.size = rb at *
  go_wp2_with fail
  refine (C1.out rb w3 R3.out (HE.out.below B3.out)).mono ?_
  rintro e w4 ⟨rfl, hR, hg⟩
  have R4 := hid hR
  have B4 := hid (bg B3.out hg hrb.out)
  clear hg hR
  go_wp2_with fail
  refine (C2.out rb w4 R4.out (HE.out.below B4.out)).mono ?_
  rintro e w5 ⟨rfl, hR, hg⟩
  have R5 := hid hR
  have B5 := hid (bg B4.out hg hrb.out)
  clear hg hR
  go_wp2_with fail
  refine (done_any rb s2.1 s2.2 w5 R5.out).mono ?_
  rintro e w6 ⟨rfl, hB⟩
  have B6 := hid (B5.out.trans (hB.mono B5.out.size))
  clear hB
  go_wp2_with fail
  go_ret3
  exact ⟨rfl, B6.out⟩
/-- Rows of strings. -/
def strRK : RK ByteArray where
  e := 9
  t := 36
  size := 1
  bytes := 16
  z := .string { data := #[] }
  cs x := [.string x]
  ok x := x.size ≤ maxLen
  und := Tryd.underlying36
  info := by kernel_rfl
  zcs := rfl
  pos := by omega
  small := by omega
  len _ := rfl
  one x v hv := by simp at hv; subst hv; rfl
  rsz := rfl
  rep w B x h := ⟨rfl, h⟩
  inv w B c x h := ⟨h.1, h.2⟩
/-- The strings that are read; whether they are the whole. -/
def readL (s : Bs) (n : Nat) : List Bs := (rWhile rT n (s, false)).1
def readB (s : Bs) (n : Nat) : Bool := !(rWhile rT n (s, false)).2.2 && (rWhile rT n (s, false)).2.1.isEmpty && decide ((readL s n).length = n)
theorem rT_lt {s : RS} (h : s.1 ≠ []) : (rT s).2.1.length < s.1.length := by
  unfold rT
  split
  · rename_i h2; have := textL_less h2; simp only; omega
  · exact List.length_pos_iff.2 h
theorem rT_nil (b : Bool) : rT ([], b) = ([], [], true) := by
  unfold rT
  simp [textL, numL, Lib.indexByte]
theorem form_bs (l : List Bs) : formB (l.map bs) = (l.map encT).flatten := by
  unfold formB
  rw [List.map_map]
  congr 2
theorem rWhile_split0 {α : Type} {f : RS → α × RS} {enc : α → List UInt8} (hf : ∀ s, (f s).2.2 = false → s.2 = false ∧ s.1 = enc (f s).1 ++ (f s).2.1) : ∀ (n : Nat) (s : RS), (rWhile f n s).2.2 = false → s.2 = false ∧ s.1 = ((rWhile f n s).1.map enc).flatten ++ (rWhile f n s).2.1
  | 0, s, h => by simp [rWhile] at h ⊢; exact h
  | n + 1, s, h => by
    unfold rWhile at h ⊢
    split at h
    · rename_i h0
      simp only [h0, if_true] at h ⊢
      exact ⟨h, by simp⟩
    · rename_i h0
      simp only [h0, if_false] at h ⊢
      obtain ⟨h1, h2⟩ := rWhile_split0 hf n _ h
      obtain ⟨h3, h4⟩ := hf s h1
      refine ⟨h3, ?_⟩
      rw [List.map_cons, List.flatten_cons, List.append_assoc, ← h2]
      exact h4
theorem readB_form {s : Bs} {n : Nat} (h : readB s n = true) : formB ((readL s n).map bs) = s ∧ (readL s n).length = n := by
  unfold readB at h
  simp only [Bool.and_eq_true, Bool.not_eq_true', decide_eq_true_eq, List.isEmpty_iff] at h
  obtain ⟨⟨h1, h2⟩, h3⟩ := h
  obtain ⟨-, h4⟩ := rWhile_split0 (enc := encT) (fun s h => rT_split h) n (s, false) h1
  rw [h2, List.append_nil] at h4
  exact ⟨by rw [form_bs]; exact h4.symm, h3⟩
theorem readL_len : ∀ (n : Nat) (st : RS), (rWhile rT n st).1.length ≤ st.1.length
  | 0, st => by simp [rWhile]
  | n + 1, st => by
    unfold rWhile
    split
    · simp
    · rename_i h
      have h1 := readL_len n (rT st).2
      have h2 := rT_lt h
      simp only [List.length_cons]
      omega
theorem readL_each : ∀ (n : Nat) (st : RS), ∀ x ∈ (rWhile rT n st).1, x.length ≤ st.1.length
  | 0, st => by simp [rWhile]
  | n + 1, st => by
    unfold rWhile
    split
    · simp
    · rename_i h
      have h1 := readL_each n (rT st).2
      have h2 := rT_lt h
      have h3 := (rT_le st).2
      intro x hx
      simp only [List.mem_cons] at hx
      rcases hx with rfl | hx
      · exact h3
      · have := h1 x hx; omega
theorem strRK_reader {w w' : World} {b : Nat} {v : Value} {l : List ByteArray} (h : strRK.Own w (b + 1) v l) (hg : w.grownBy w' (some b)) : strRK.Own w' (b + 1) v l :=
  own_kept h (fun q cs hv hb => hb.grown hg (fun e => by injection e with e; have := (own_blk h q hv).1; omega))
set_option maxRecDepth 100000 in
set_option maxHeartbeats 8000000 in
theorem read_any (s : Bs) (n : Nat) (w : World) (hs : s.length ≤ 20000000) (hn : n ≤ 9223372036854775807) (he : Env w) :
    Calls Tryd.prog 37 #[.string (bs s), .int .i64 (n : Int)] w fun e w' => ∃ v, e = .returned (.tuple #[v, .bool (readB s n)]) ∧ strRK.Own w' w.heap.size v ((readL s n).map bs) ∧ Below w.heap.size w w' := by
  have HE := hid he
  obtain ⟨l0, hl0⟩ : ∃ l0, l0 = readL s n := ⟨_, rfl⟩
  rw [← hl0]
  have HL0 := hid hl0
  obtain ⟨b0, hb0⟩ : ∃ b0, b0 = readB s n := ⟨_, rfl⟩
  rw [← hb0]
  have HB0 := hid hb0
  have HSZ := hid hs
  have HN := hid hn
  clear hl0 hb0 he hs
  go_enter Tryd.func37, Tryd.ntmps37
  go_wp2_with fail
  go_step3
  go_wp2_with fail
  refine (open_any (bs s) w).mono ?_
  rintro e w1 ⟨rfl, hR, hB⟩
  rw [toList_bs] at hR
  have R1 := hid hR
  have B1 := hid hB
  have hrb := hid (Nat.le_refl w.heap.size)
  obtain ⟨rb, hrbe⟩ : ∃ rb, rb = w.heap.size := ⟨_, rfl⟩
  have HRB := hid hrbe
  have hrlt := hR.lt
  rw [← hrbe] at R1 hrlt
  have RLT := hid hrlt
  clear hR hB hrb hrlt
  rw [← hrbe]
  clear hrbe
  go_wp2_with fail
  go_step3
  go_upto_block 0 with fail
  go_cut [7, 8, 9] (fun lv _ _ wx => ∃ (st : RS) (O : List Bs), strRK.Own wx (rb + 1) lv (O.map bs) ∧ Rd wx rb st.1 st.2 ∧ Below w.heap.size w wx ∧ Hid (O = l0) ∧ Hid ((!st.2 && st.1.isEmpty && decide (O.length = n)) = b0))
  case first =>
    go_wp2_with fail
    go_loopw [7, 8, 9] (fun lv _ _ wr => ∃ (m : Nat) (st : RS) (O : List Bs), O.length + m = n ∧ O.length ≤ s.length ∧ O.length + st.1.length ≤ s.length ∧ strRK.Own wr (rb + 1) lv (O.map bs) ∧ Rd wr rb st.1 st.2 ∧ RSok st ∧ Below w.heap.size w wr ∧ Hid (rWhile rT n (s, false) = (O ++ (rWhile rT m st).1, (rWhile rT m st).2))) (fun lv _ _ _ => n - slLen lv)
    case atStart => exact ⟨n, (s, false), [], by simp, by simp, by simp, RK.Own.nil, R1.out, (by intro h; cases h), B1.out, rfl⟩
    case round =>
      obtain ⟨m, st, O, hm, hOs, hsum, hO, hRd, hok, hB, hrw⟩ := hrel
      have HO := hid hO
      have HR := hid hRd
      have HK := hid hok
      have HB := hid hB
      have HW := hid hrw
      have HM := hid hm
      have HSUM := hid hsum
      have HOS := hid hOs
      obtain ⟨Al, cl, hv⟩ := hO.form
      rw [List.length_map] at hv
      subst hv
      have hov : O.length ≤ 20000000 := by have := HSZ.out; omega
      clear hO hRd hok hB hrw hsum hOs hm
      rcases Nat.eq_zero_or_pos m with hm0 | hm0
      case inl =>
        subst hm0
        have hge : ¬ (O.length : Int) < (n : Int) := by have := HM.out; omega
        go_wp2_with fail
        go_meet
        refine ⟨st, O, HO.out, HR.out, HB.out, ?_, ?_⟩
        · show O = l0
          rw [HL0.out]; unfold readL; rw [HW.out]; simp [rWhile]
        · show _ = b0
          rw [HB0.out]; unfold readB readL; rw [HW.out]; simp [rWhile]
      case inr =>
        obtain ⟨m, rfl⟩ : ∃ k, m = k + 1 := ⟨m - 1, by omega⟩
        have hlt : (O.length : Int) < (n : Int) := by have := HM.out; omega
        have hst : st.1.length ≤ 20000000 := by have := HSUM.out; have := HSZ.out; omega
        have HT := hid (rText_f st HK.out (by omega) rb)
        clear hm0
        go_wp2_with fail
        refine (left_any rb st.1 st.2 wr HR.out).mono ?_
        rintro e w2 ⟨rfl, hB⟩
        have B2 := hid (HB.out.trans (hB.mono HB.out.size))
        have R2 := hid (show Rd w2 rb st.1 st.2 from Blk.below HR.out hB HR.out.lt)
        have O2 := hid (HO.out.below hB)
        clear hB
        go_wp2_with fail
        refine (HT.out w2 R2.out (HE.out.below B2.out)).mono ?_
        rintro e w3 ⟨rfl, hR, hg⟩
        have R3 := hid hR
        have B3 := hid (bg B2.out hg (by rw [HRB.out]; exact Nat.le_refl _))
        have O3 := hid (strRK_reader O2.out hg)
        clear hR hg
        go_wp2_with fail
        refine (left_any rb (rT st).2.1 (rT st).2.2 w3 R3.out).mono ?_
        rintro e w4 ⟨rfl, hB⟩
        have B4 := hid (B3.out.trans (hB.mono B3.out.size))
        have R4 := hid (show Rd w4 rb (rT st).2.1 (rT st).2.2 from Blk.below R3.out hB R3.out.lt)
        have O4 := hid (O3.out.below hB)
        clear hB HO HR HB R2 B2 O2 R3 B3 O3 HT
        by_cases hnil : st.1 = []
        case pos =>
          obtain ⟨s1, s2⟩ := st
          simp only at hnil
          subst hnil
          have hge : (((rT ([], s2)).2.1.length : Nat) : Int) = 0 := by rw [rT_nil]; rfl
          have R5 := hid (show Rd w4 rb [] true by have := R4.out; rw [rT_nil] at this; exact this)
          clear R4 HK
          generalize (rT ([], s2)) = z at *
          go_wp2_with fail
          go_meet
          refine ⟨([], true), O, O4.out, R5.out, B4.out, ?_, ?_⟩
          · show O = l0
            rw [HL0.out]; unfold readL; rw [HW.out]; simp [rWhile]
          · show _ = b0
            rw [HB0.out]; unfold readB readL; rw [HW.out]; have := HM.out; simp [rWhile]; intro _; omega
        case neg =>
          have h1 := rT_lt hnil
          have h2 := (rT_le st).2
          have h3 := rT_ok HK.out
          have hpos := List.length_pos_iff.2 hnil
          have HW2 := hid (show rWhile rT n (s, false) = ((O ++ [(rT st).1]) ++ (rWhile rT m (rT st).2).1, (rWhile rT m (rT st).2).2) by
            rw [HW.out]
            conv => lhs; unfold rWhile
            rw [if_neg hnil]
            simp)
          generalize rT st = z at *
          obtain ⟨x, st2⟩ := z
          simp only at *
          have K2 := hid h3
          have hbe : ¬ (st.1.length : Int) ≤ (st2.1.length : Int) := by omega
          have hb0 : ((st.1.length : Int) == 0) = false := by rw [beq_eq_false_iff_ne]; omega
          have hb1 : ¬ (st.1.length : Int) = 0 := by omega
          have HX := hid (And.intro h1 h2)
          have hxs : x.length ≤ 20000000 := by omega
          have BA := hid (show Below w4.heap.size w4 (w4.alloc (Obj.cells #[Value.string (bs x)] 9)) by (repeat (first | exact Below.refl _ _ | assumption | refine below_drewN ?_ _ | refine Below.drew ?_ | refine Below.alloc ?_ (by (try simp); (try omega)) _ | refine Below.setCell ?_ (by (try simp); (try omega)) _)))
          have OA := hid (O4.out.below BA.out)
          have SA := hid (show SlR (w4.alloc (Obj.cells #[Value.string (bs x)] 9)) (w4.alloc (Obj.cells #[Value.string (bs x)] 9)).heap.size (some ⟨w4.heap.size, 0, none⟩) ([bs x] : List ByteArray) from strRK.blk (l := [bs x]) (Blk.new w4 _ _) (by intro y hy; simp at hy; subst hy; show (bs x).size ≤ maxLen; rw [bs_size]; unfold maxLen; omega))
          have hba := hid (show rb + 1 ≤ (w4.alloc (Obj.cells #[Value.string (bs x)] 9)).heap.size by simp; have := R4.out.lt; omega)
          clear h1 h2 h3 hnil HW
          go_wp2_with (first
            | (at_builtin; refine strRK.appL _ rfl (.tmp 28) (.tmp 30) rfl rfl OA.out (ys := [bs x]) (c := 1) rfl SA.out (by simp; omega) hba.out ?_; intro A5 c5 w5 hO5 hg5)
            | go_in)
          have B5 := hid (show Below w.heap.size w w5 from by
            have b1 := B4.out.trans (BA.out.mono B4.out.size)
            refine ⟨hg5.os.trans b1.os, hg5.tape.trans b1.tape, hg5.output.trans b1.output, Nat.le_trans b1.size hg5.size, fun q hq => (hg5.block q (Nat.lt_of_lt_of_le hq b1.size) (fun e => ?_)).trans (b1.block q hq)⟩
            have := (World.ownsRow.lt OA.out q e.symm).1
            have := HRB.out
            omega)
          have R5 := hid (show Rd w5 rb st2.1 st2.2 from (Blk.below R4.out BA.out R4.out.lt).grown hg5 (fun e => by have := (World.ownsRow.lt OA.out rb e.symm).1; omega))
          refine ⟨⟨m, st2, O ++ [x], by simp; have := HM.out; omega, by simp; have := HSUM.out; have := HX.out.1; omega, by simp; have := HSUM.out; have := HX.out.1; omega, by simpa using hO5, R5.out, K2.out, B5.out, HW2.out⟩, by simp only [slLen]; have := HM.out; simp; omega⟩
  case rest =>
  obtain ⟨st, O, hO, hR, hB, hl, hb⟩ := hcut
  have HLE := hid (show O = readL s n from hl.trans HL0.out)
  have hol : O.length ≤ 20000000 := by
    have := readL_len n (s, false); have := HSZ.out; have := HLE.out; simp only at *; unfold readL at *; rw [HLE.out]; omega
  have hok : ∀ x ∈ O.map bs, x.size ≤ 20000000 := by
    intro x hx
    obtain ⟨y, hy, rfl⟩ := List.mem_map.1 hx
    rw [HLE.out] at hy
    have := readL_each n (s, false) y hy
    have := HSZ.out
    simp only at *
    rw [bs_size]; omega
  obtain ⟨A, c, hv, -, -, hsl⟩ := hO.slr (fun x hx => by have := hok x hx; show x.size ≤ maxLen; unfold maxLen; omega)
  rw [List.length_map] at hv
  subst hv
  have HOK := hid hok
  have HO := hid hO
  have HR := hid hR
  have HB := hid hB
  have HSL := hid hsl
  have HLL := hid (show O = l0 from hl)
  have HBE := hid (show (!st.2 && st.1.isEmpty && decide (O.length = n)) = b0 from hb)
  have HDN := done_any rb st.1 st.2 wc HR.out
  obtain ⟨d, hd⟩ : ∃ d, d = (!st.2 && st.1.isEmpty) := ⟨_, rfl⟩
  rw [← hd] at HDN
  have HD := hid hd
  have HDN := hid HDN
  have hrb := hid (show w.heap.size ≤ rb + 1 by have := HRB.out; omega)
  clear hO hR hB hsl hl hb hd hok
  have hbb : b0 = (d && decide (O.length = n)) := by rw [← HBE.out, HD.out]
  cases d with
  | false =>
    have hb2 : b0 = false := by rw [hbb]; rfl
    have HB2 := hid hb2
    clear hbb hb2
    go_wp2_with fail
    refine HDN.out.mono ?_
    rintro e w2 ⟨rfl, hB⟩
    have B2 := hid (HB.out.trans (hB.mono HB.out.size))
    have O2 := hid (HO.out.below hB)
    clear hB
    go_wp2_with fail
    rw [Exit.noGoto_ret]
    go_ret2
    exact ⟨_, by rw [HB2.out]; rfl, by rw [← HLL.out]; exact O2.out.base_ hrb.out, B2.out⟩
  | true =>
    by_cases hq : O.length = n
    case neg =>
      have hb2 : b0 = false := by rw [hbb]; simp [hq]
      have HB2 := hid hb2
      have hq2 : ((O.length : Int) == (n : Int)) = false := by rw [beq_eq_false_iff_ne]; omega
      have hq3 : ¬ (O.length : Int) = (n : Int) := by omega
      clear hbb hb2 hq
      go_wp2_with fail
      refine HDN.out.mono ?_
      rintro e w2 ⟨rfl, hB⟩
      have B2 := hid (HB.out.trans (hB.mono HB.out.size))
      have O2 := hid (HO.out.below hB)
      clear hB
      go_wp2_with fail
      rw [Exit.noGoto_ret]
      go_ret2
      exact ⟨_, by rw [HB2.out]; rfl, by rw [← HLL.out]; exact O2.out.base_ hrb.out, B2.out⟩
    case pos =>
      have hb2 : b0 = true := by rw [hbb]; simp [hq]
      have HB2 := hid hb2
      have hfm := (readB_form (hb2 ▸ HB0.out.symm)).1
      rw [← HLE.out] at hfm
      have HFM := hid hfm
      have HF := hid (fun (w2 : World) (hB : Below wc.heap.size wc w2) => form_any A c (O.map bs) w2 (by simp only [List.length_map]; unfold maxLen; omega) ((HSL.out.below hB).more hB.size) (HE.out.below (HB.out.trans (hB.mono HB.out.size))) (by rw [hfm]; have := HSZ.out; omega) (fun x hx => by have := HOK.out x hx; omega))
      rw [hfm] at HF
      simp only [List.length_map] at HF
      subst hq
      clear hbb hb2 hfm
      go_wp2_with fail
      refine HDN.out.mono ?_
      rintro e w2 ⟨rfl, hB⟩
      have B2 := hid (HB.out.trans (hB.mono HB.out.size))
      have F2 := hid (HF.out w2 hB)
      have O2 := hid (HO.out.below hB)
      clear hB
      go_wp2_with fail
      refine F2.out.mono ?_
      rintro e w3 ⟨rfl, hB⟩
      have B3 := hid (B2.out.trans (hB.mono B2.out.size))
      have O3 := hid (O2.out.below hB)
      clear hB
      go_wp2_with fail
      rw [Exit.noGoto_ret]
      go_ret2
      exact ⟨_, by rw [HB2.out]; rfl, by rw [← HLL.out]; exact O3.out.base_ hrb.out, B3.out⟩
end Go.Proofs.YtbefmjodpndndaaDoor
