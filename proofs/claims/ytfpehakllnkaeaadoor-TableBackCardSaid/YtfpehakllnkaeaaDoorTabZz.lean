
/- THE LAW: rows are read from their encoding as they were, and what is read of a string has this encoding: TableBack returns true for every input. Condition: the listed package-level variables of Go's library hold what its text lays; the card ties them. -/
import Derived.Test.YtfpehakllnkaeaaDoorEncB
import Derived.Test.YtfpehakllnkaeaaDoorTabF
import Derived.Test.YtfpehakllnkaeaaDoorTabP
import Derived.Test.YtfpehakllnkaeaaDoorTabG
import Derived.Deep.AppendSrc
import Derived.Lib.LazyBuf
import Derived.Maps.Own
import Derived.Maps.Views
import Derived.Shelf.SlSortCmp.NoneTotal
import Derived.Test.YtfpehakllnkaeaaDoorBase
import Derived.Test.YtfpehakllnkaeaaDoorGamM
import Derived.Test.YtfpehakllnkaeaaDoorReg
import Derived.Test.YtfpehakllnkaeaaDoorGamF
import Derived.Test.YtfpehakllnkaeaaDoorCards
import Derived.Test.YtfpehakllnkaeaaDoorTie
import Derived.Test.YtfpehakllnkaeaaDoorOpen
import Derived.Test.YtfpehakllnkaeaaDoorWireB
import Derived.LaidMore
import Derived.Stop.Joined
import Derived.Stop.LaidErr
import Derived.Lib.LaidTab
set_option linter.unusedSimpArgs false
set_option linter.unusedVariables false
namespace Go.Proofs.YtfpehakllnkaeaaDoor
open Go.RowKit Go.IntWalk

def encRows (l : List Row) : List UInt8 := encI l.length ++ (l.map enc3).flatten
theorem encRows_le (l : List Row) (h : ∀ x ∈ l, P3I x) (hn : l.length ≤ 1000000000) : (encRows l).length ≤ 100 + 66 * l.length := by
  have h1 := flat3_le l h
  have h2 := encI_le22 l.length ⟨by omega, by omega⟩
  unfold encRows
  rw [List.length_append]
  omega
set_option maxRecDepth 100000 in
set_option maxHeartbeats 4000000 in
theorem tbytes_any (A : Option Addr) (c : Nat) (l : List Row) (w : World) (hn : l.length ≤ 100000) (hs : SlR w w.heap.size A l) (he : Env w) :
    Calls Tryd.prog 13 #[.slice A l.length c] w fun e w' => e = .returned (.string (bs (encRows l))) ∧ Below w.heap.size w w' := by
  have HOK := hid (show ∀ x ∈ l, P3I x from rwRK.oks hs)
  have HN := hid (BW.num he l.length (by omega) _ (BW.fresh w))
  have e2 := hid (encI_le22 l.length ⟨by omega, by omega⟩)
  have HW0 := hid (fun W hW => BW.write (w := w) (acc := []) (encI l.length) (by have := e2.out; simp; omega) W hW)
  rw [List.nil_append] at HW0
  go_enter Tryd.func13, Tryd.ntmps13
  go_wp2_with fail
  refine HN.out.mono ?_
  rintro e w1 ⟨rfl, hB1⟩
  have B1 := hid hB1
  clear hB1
  have hz22 : (bs (encI l.length)).size ≤ 22 := by rw [bs_size]; exact e2.out
  go_wp2_with fail
  refine (HW0.out _ B1.out).mono ?_
  rintro e w2 ⟨rfl, hB2⟩
  have B2 := hid hB2
  clear hB2 B1 HN HW0 hz22
  go_wp2_with fail
  go_loopw [12] (fun i wr => ∃ k : Nat, k ≤ l.length ∧ i = .int .i64 k ∧ BW w (encI l.length ++ ((l.take k).map enc3).flatten) wr) (fun i _ => l.length - (intOf i).toNat)
  case atStart => exact ⟨0, by omega, rfl, by simpa using B2.out⟩
  case round =>
    clear B2
    obtain ⟨k, hk, rfl, hP⟩ := hrel
    by_cases hlt : k < l.length
    · obtain ⟨b, off, rfl, hbB, g⟩ := rwRK.elem hs hlt
      have hlt' : (k : Int) < l.length := by omega
      have hri := HOK.out _ (List.getElem_mem hlt)
      have hsn := hid (flat_snoc3 enc3 l k hlt)
      have hlen := hid (show (encI l.length ++ ((l.take k).map enc3).flatten).length ≤ 100000000 by
        rw [List.length_append]
        have := e2.out
        have := flat_take enc3 l k
        have := flat3_le l HOK.out
        omega)
      obtain ⟨g0, g1, g2⟩ : w.cell? ⟨b, off + k * 3, none⟩ = some (.int .i64 l[k].1) ∧ w.cell? ⟨b, off + k * 3 + 1, none⟩ = some (.int .i64 l[k].2.1) ∧ w.cell? ⟨b, off + k * 3 + 2, none⟩ = some (.int .i64 l[k].2.2) := ⟨g.1 0 (by decide), g.1 1 (by decide), g.1 2 (by decide)⟩
      clear g
      generalize l[k] = x at *
      obtain ⟨x, y, z⟩ := x
      obtain ⟨i0, i1, i2⟩ := hri
      simp only at g0 g1 g2 i0 i1 i2
      have HP := hid hP
      clear hP
      replace g0 := (bcell HP.out.below b _ hbB).trans g0
      replace g1 := (bcell HP.out.below b _ hbB).trans g1
      replace g2 := (bcell HP.out.below b _ hbB).trans g2
      have hbz : b < wr.heap.size := by have := HP.out.below.size; omega
      obtain ⟨acc, hacc⟩ : ∃ acc, acc = encI l.length ++ ((l.take k).map enc3).flatten := ⟨_, rfl⟩
      rw [← hacc] at HP hlen
      have Hacc := hid hacc
      clear hacc
      go_upto_region 6 with fail
      generalize hwv : wr.alloc (Obj.cells #[.int .i64 x, .int .i64 y, .int .i64 z] 87) = wv
      have bx : Blk wv wr.heap.size 87 #[.int .i64 x, .int .i64 y, .int .i64 z] := by rw [← hwv]; exact Blk.new _ _ _
      have PV := hid (show BW w acc wv by rw [← hwv]; exact HP.out.alloc _)
      have x0 := bx.cell 0; have x1 := bx.cell 1; have x2 := bx.cell 2
      simp at x0 x1 x2
      have xz := bx.lt
      clear hwv g0 g1 g2 HP
      have HI := hid (fun (n : Int) (hn : I64 n) (W' : World) (hW : Below wv.heap.size wv W') => wInt_any n hn W' (he.below (PV.out.below.trans (hW.mono PV.out.below.size))))
      have HWR := hid (fun (W' : World) (hW : Below wv.heap.size wv W') => show Calls Tryd.prog 29 #[.pointer (some ⟨w.heap.size, 0, none⟩), .string (bs (encI x) ++ bs (encI y) ++ bs (encI z))] W' fun e w' => e = .returned (.tuple #[.int .i64 (bs (enc3 (x, y, z))).size, .nilIface]) ∧ BW w (acc ++ enc3 (x, y, z)) w' by
        rw [cat3]
        exact BW.write (enc3 (x, y, z)) (by have := hlen.out; have := enc3_le (x, y, z) ⟨i0, i1, i2⟩; omega) W' (PV.out.step hW))
      obtain ⟨q1, q2, q3⟩ := add3 x y z i0 i1 i2
      have HSF := hid (fun (wq : World) (hq : Below wv.heap.size wv wq) => And.intro ((bcell hq _ _ xz).trans x0) (And.intro ((bcell hq _ _ xz).trans x1) ((bcell hq _ _ xz).trans x2)))
      have BD := hid ((Below.refl wv.heap.size wv).drew)
      clear x0 x1 x2
      refine wpIn_wide.1 (wpIn_region_S (n := 0) (fun wq => Below wv.heap.size wv wq) [11] (by kernel_rfl) BD.out (fun hHeld => ?_))
      generalize wv.drew = wd at *
      refine wpAnyG_pure 0 (v := ?_) (fun _ => trivial) (by simp only [List.getElem?_toArray, List.getElem?_cons_succ, List.getElem?_cons_zero]; rfl) (by kernel_rfl) (fun _ _ _ _ _ h => h) ⟨(by rfl), (by intro c h; cases h), ?_⟩ hHeld ?_
      rotate_left
      focus (intro wS hSw; (try replace hSw := HSF.out wS hSw); (try dsimp only at hSw); go_simp; (try with_reducible rfl))
      (try simp only [Act.put, List.setIfInBounds_toArray, List.set_cons_zero, List.set_cons_succ])
      refine wpAnyG_take 1 (v := ?_) (fun _ => trivial) (by simp only [List.getElem?_toArray, List.getElem?_cons_succ, List.getElem?_cons_zero]; rfl) (by kernel_rfl) (fun _ _ _ _ _ h => h) ⟨(by rfl), (by intro c h; cases h), ?_⟩ hHeld ?_
      rotate_left
      focus (intro wS hSw; (try replace hSw := HSF.out wS hSw); (try dsimp only at hSw); go_simp; (try with_reducible rfl))
      (try simp only [Act.put, List.setIfInBounds_toArray, List.set_cons_zero, List.set_cons_succ])
      refine wpAnyG_pure 3 (v := ?_) (fun _ => trivial) (by simp only [List.getElem?_toArray, List.getElem?_cons_succ, List.getElem?_cons_zero]; rfl) (by kernel_rfl) (fun _ _ _ _ _ h => h) ⟨(by rfl), (by intro c h; cases h), ?_⟩ hHeld ?_
      rotate_left
      focus (intro wS hSw; (try replace hSw := HSF.out wS hSw); (try dsimp only at hSw); go_simp; (try with_reducible rfl))
      (try simp only [Act.put, List.setIfInBounds_toArray, List.set_cons_zero, List.set_cons_succ])
      refine wpAnyG_take 4 (v := ?_) (fun _ => trivial) (by simp only [List.getElem?_toArray, List.getElem?_cons_succ, List.getElem?_cons_zero]; rfl) (by kernel_rfl) (fun _ _ _ _ _ h => h) ⟨(by rfl), (by intro c h; cases h), ?_⟩ hHeld ?_
      rotate_left
      focus (intro wS hSw; (try replace hSw := HSF.out wS hSw); (try dsimp only at hSw); go_simp; (try with_reducible rfl))
      (try simp only [Act.put, List.setIfInBounds_toArray, List.set_cons_zero, List.set_cons_succ])
      refine wpAnyG_pure 7 (v := ?_) (fun _ => trivial) (by simp only [List.getElem?_toArray, List.getElem?_cons_succ, List.getElem?_cons_zero]; rfl) (by kernel_rfl) (fun _ _ _ _ _ h => h) ⟨(by rfl), (by intro c h; cases h), ?_⟩ hHeld ?_
      rotate_left
      focus (intro wS hSw; (try replace hSw := HSF.out wS hSw); (try dsimp only at hSw); go_simp; (try with_reducible rfl))
      (try simp only [Act.put, List.setIfInBounds_toArray, List.set_cons_zero, List.set_cons_succ])
      refine wpAnyG_take 8 (v := ?_) (fun _ => trivial) (by simp only [List.getElem?_toArray, List.getElem?_cons_succ, List.getElem?_cons_zero]; rfl) (by kernel_rfl) (fun _ _ _ _ _ h => h) ⟨(by rfl), (by intro c h; cases h), ?_⟩ hHeld ?_
      rotate_left
      focus (intro wS hSw; (try replace hSw := HSF.out wS hSw); (try dsimp only at hSw); go_simp; (try with_reducible rfl))
      (try simp only [Act.put, List.setIfInBounds_toArray, List.set_cons_zero, List.set_cons_succ])
      refine wpAnyS_ready [2] (by kernel_rfl) (by simp) (AllReadyS.consG (by simp only [List.getElem?_toArray, List.getElem?_cons_succ, List.getElem?_cons_zero]; rfl) (by rfl) (fun K hK => ?_) AllReadyS.nil)
      refine callS (by intro c h; cases h) (by go_simp; try with_reducible rfl) (HI.out x i0 _ BD.out) ?_
      intro w3 hBq
      have B3 := hid (BD.out.trans (hBq.mono BD.out.size))
      refine hK.out _ _ B3.out ?_
      (try simp only [Act.put, List.setIfInBounds_toArray, List.set_cons_zero, List.set_cons_succ])
      clear hK K hBq
      clear hHeld
      have hHeld := B3.out
      refine wpAnyS_ready [5] (by kernel_rfl) (by simp) (AllReadyS.consG (by simp only [List.getElem?_toArray, List.getElem?_cons_succ, List.getElem?_cons_zero]; rfl) (by rfl) (fun K hK => ?_) AllReadyS.nil)
      refine callS (by intro c h; cases h) (by go_simp; try with_reducible rfl) (HI.out y i1 _ B3.out) ?_
      intro w4 hBq
      have B4 := hid (B3.out.trans (hBq.mono B3.out.size))
      refine hK.out _ _ B4.out ?_
      (try simp only [Act.put, List.setIfInBounds_toArray, List.set_cons_zero, List.set_cons_succ])
      clear hK K hBq
      clear hHeld
      have hHeld := B4.out
      refine wpAnyG_pure 6 (v := ?_) (fun _ => trivial) (by simp only [List.getElem?_toArray, List.getElem?_cons_succ, List.getElem?_cons_zero]; rfl) (by kernel_rfl) (fun _ _ _ _ _ h => h) ⟨(by rfl), (by intro c h; cases h), ?_⟩ hHeld ?_
      rotate_left
      focus (intro wS hSw; (try replace hSw := HSF.out wS hSw); (try dsimp only at hSw); go_simp; (try with_reducible rfl))
      (try simp only [Act.put, List.setIfInBounds_toArray, List.set_cons_zero, List.set_cons_succ])
      refine wpAnyS_ready [9] (by kernel_rfl) (by simp) (AllReadyS.consG (by simp only [List.getElem?_toArray, List.getElem?_cons_succ, List.getElem?_cons_zero]; rfl) (by rfl) (fun K hK => ?_) AllReadyS.nil)
      refine callS (by intro c h; cases h) (by go_simp; try with_reducible rfl) (HI.out z i2 _ B4.out) ?_
      intro w5 hBq
      have B5 := hid (B4.out.trans (hBq.mono B4.out.size))
      refine hK.out _ _ B5.out ?_
      (try simp only [Act.put, List.setIfInBounds_toArray, List.set_cons_zero, List.set_cons_succ])
      clear hK K hBq
      clear hHeld
      have hHeld := B5.out
      refine wpAnyG_pure 10 (v := ?_) (fun _ => trivial) (by simp only [List.getElem?_toArray, List.getElem?_cons_succ, List.getElem?_cons_zero]; rfl) (by kernel_rfl) (fun _ _ _ _ _ h => h) ⟨(by rfl), (by intro c h; cases h), ?_⟩ hHeld ?_
      rotate_left
      focus (intro wS hSw; (try replace hSw := HSF.out wS hSw); (try dsimp only at hSw); go_simp; (try with_reducible rfl))
      (try simp only [Act.put, List.setIfInBounds_toArray, List.set_cons_zero, List.set_cons_succ])
      refine wpAnyS_ready [11] (by kernel_rfl) (by simp) (AllReadyS.consLG (by simp only [List.getElem?_toArray, List.getElem?_cons_succ, List.getElem?_cons_zero]; rfl) (by rfl) (by kernel_rfl) (fun K hK => ?_) AllReadyS.nil)
      refine callS (by intro c h; cases h) (by go_simp; try with_reducible rfl) (HWR.out _ B5.out) ?_
      intro w6 hB6
      have P6 := hid hB6
      clear hB6
      refine hK.out _ _ ?_
      (try simp only [Act.put, List.setIfInBounds_toArray, List.set_cons_zero, List.set_cons_succ])
      refine wpAnyS_done (by kernel_rfl) ?_
      clear hK K hHeld B3 B4 B5 BD HSF HI HWR PV
      go_wp2_with fail
      go_roundw
      case rel => exact ⟨k + 1, by omega, by go_num, by rw [hsn.out, ← List.append_assoc, ← Hacc.out]; exact P6.out⟩
      case measure => simp [intOf]; omega
    · obtain rfl : k = l.length := by omega
      rw [List.take_length] at hP
      go_wp2_with fail
      refine (BW.str _ hP).mono ?_
      rintro e w9 ⟨rfl, hB⟩
      go_wp2_with fail
      go_ret
      exact ⟨ret_str (by unfold encRows; rfl), hB⟩
end Go.Proofs.YtfpehakllnkaeaaDoor
namespace Go.Proofs.YtfpehakllnkaeaaDoor
open Go.RowKit Go.IntWalk

/-- The rows that Read reads, whatever it returns then. -/
def outRows (s : List UInt8) : List Row := (rMany r3 (min (rN (s, false)).1.toNat s.length) (rN (s, false)).2).1
/-- What Read returns. -/
def readRows (s : List UInt8) : Option (List Row) := if encRows (outRows s) = s then some (outRows s) else none
theorem readRows_enc (l : List Row) (h : ∀ x ∈ l, P3I x) (hn : l.length ≤ 1000000) : readRows (encRows l) = some l := by
  have h1 : rN (encRows l, false) = ((l.length : Int), (l.map enc3).flatten, false) := rN_enc l.length ⟨by omega, by omega⟩ (by omega) _ _
  have h2 : min (rN (encRows l, false)).1.toNat (encRows l).length = l.length := by
    rw [h1]
    have : l.length ≤ ((l.map enc3).flatten).length := by
      clear h1 hn
      induction l with
      | nil => simp
      | cons x l ih =>
        have := ih (fun y hy => h y (List.mem_cons_of_mem _ hy))
        have h3 : 1 ≤ (enc3 x).length := by simp [enc3, encI]; omega
        simp only [List.map_cons, List.flatten_cons, List.length_append, List.length_cons]
        omega
    unfold encRows
    rw [List.length_append]
    simp only [Int.toNat_natCast]
    omega
  have h3 : outRows (encRows l) = l := by
    unfold outRows
    rw [h2, h1]
    have := rMany_enc r3 enc3 [] l (fun x hx r b => r3_enc x (h x hx) r b)
    rw [List.append_nil] at this
    rw [this]
  unfold readRows
  rw [h3, if_pos rfl]
theorem outRows_len (s : List UInt8) : (outRows s).length ≤ s.length := by
  unfold outRows
  rw [rMany_len]
  omega
theorem outRows_ok (s : List UInt8) : ∀ x ∈ outRows s, P3I x := rMany_all (p := P3I) r3_bd _ _
/-- Read's result. -/
def RowsRes (w : World) (r : Option (List Row)) (e : Ending) (w' : World) : Prop :=
  match r with
  | some l => ∃ A c, e = .returned (.tuple #[.slice A l.length c, .bool true]) ∧ l.length ≤ c ∧ c ≤ maxLen ∧ SlR w' w'.heap.size A l ∧ Below w.heap.size w w'
  | none => e = .returned (.tuple #[.slice none 0 0, .bool false]) ∧ Below w.heap.size w w'
theorem rMany_succ {α : Type} (f : RS → α × RS) (n : Nat) (s : RS) : rMany f (n + 1) s = ((f s).1 :: (rMany f n (f s).2).1, (rMany f n (f s).2).2) := rfl
theorem toList_data (z : ByteArray) : z.toList = z.data.toList := by rw [← bs_of z, bs_list]; simp [bs]
set_option maxRecDepth 100000 in
set_option maxHeartbeats 4000000 in
theorem tread_any (s : ByteArray) (w : World) (hs : s.size ≤ 90000) (he : Env w) :
    Calls Tryd.prog 12 #[.string s] w (RowsRes w (readRows s.data.toList)) := by
  have hsl := hid (size_list s)
  have hl0 : s.data.toList.length ≤ 90000 := by rw [← size_list]; exact hs
  obtain ⟨n0, s1, hr1⟩ : ∃ n0 s1, rN (s.data.toList, false) = (n0, s1) := ⟨_, _, rfl⟩
  have cN := rNum_f (s.data.toList, false) (by simp only; omega)
  have hn0 := rN_bd (s.data.toList, false)
  have hl1 := rN_le (s.data.toList, false)
  rw [hr1] at cN hn0 hl1
  simp only at cN hn0 hl1
  obtain ⟨n, rfl⟩ := Int.eq_ofNat_of_zero_le hn0.1
  have hout : outRows s.data.toList = (rMany r3 (min n s.size) s1).1 := by unfold outRows; rw [hr1, ← hsl.out]; rfl
  have hmin : min (n : Int) (s.size : Int) = ((min n s.size : Nat) : Int) := by omega
  have hN90 : min n s.size ≤ 90000 := by omega
  obtain ⟨N, hN⟩ : ∃ N, N = min n s.size := ⟨_, rfl⟩
  rw [← hN] at hout hmin hN90
  clear hN hr1
  have Hout := hid hout
  have CN := hid cN
  clear hout cN hn0
  go_enter Tryd.func12, Tryd.ntmps12
  go_wp2_with fail
  refine (open_any s _).mono ?_
  rintro e w1 ⟨rfl, hR, hB⟩
  have B1 := hid hB
  have hz1 := hR.lt
  clear hB
  generalize hbq : w.heap.size = b at hR hz1
  have Hbq := hid hbq
  clear hbq
  go_wp2_with fail
  refine (CN.out b _ hR (he.below B1.out)).mono ?_
  rintro e w2 ⟨rfl, hR2, hg⟩
  have B2 := hid (bg B1.out hg (by rw [Hbq.out]; exact Nat.le_refl _))
  have R2 := hid hR2
  have hz2 := hid (hg.size)
  clear hR2 hR B1 hg CN
  go_wp2_with fail
  go_loopw [5, 13] (fun ov i wr => ∃ (k : Nat) (O : List Row) (st : RS), k ≤ N ∧ i = .int .i64 k ∧ O.length = k ∧ rwRK.Own wr (b + 1) ov O ∧ (∀ x ∈ O, P3I x) ∧ Rd wr b st.1 st.2 ∧ st.1.length ≤ 90000 ∧ Hid ((rMany r3 N s1).1 = O ++ (rMany r3 (N - k) st).1) ∧ Below w.heap.size w wr) (fun _ i _ => N - (intOf i).toNat)
  case atStart => exact ⟨0, [], s1, by omega, rfl, rfl, RK.Own.nil, by simp, R2.out, by omega, by simp [Hid], B2.out⟩
  case round =>
    clear R2 B2
    obtain ⟨k, O, st, hk, rfl, hOl, hO, hOK, hRd, hst, hrm, hB⟩ := hrel
    have HO := hid hO
    have HOK := hid hOK
    have HR := hid hRd
    have HB := hid hB
    have HOl := hid hOl
    clear hO hOK hRd hB hOl
    by_cases hlt : k < N
    · obtain ⟨x0, st1, h1⟩ : ∃ x s', rI st = (x, s') := ⟨_, _, rfl⟩
      obtain ⟨x1, st2, h2⟩ : ∃ x s', rI st1 = (x, s') := ⟨_, _, rfl⟩
      obtain ⟨x2, st3, h3⟩ : ∃ x s', rI st2 = (x, s') := ⟨_, _, rfl⟩
      have c1 := rInt_f st (by omega) b
      have l1 := rI_le st
      have i1 := rI_bd st
      rw [h1] at c1 l1 i1
      have c2 := rInt_f st1 (by simp only at l1; omega) b
      have l2 := rI_le st1
      have i2 := rI_bd st1
      rw [h2] at c2 l2 i2
      have c3 := rInt_f st2 (by simp only at l1 l2; omega) b
      have l3 := rI_le st2
      have i3 := rI_bd st2
      rw [h3] at c3 l3 i3
      simp only at c1 c2 c3 l1 l2 l3 i1 i2 i3
      have hr3 : r3 st = ((x0, x1, x2), st3) := by unfold r3; rw [h1]; simp only [h2, h3]
      have hrm2 := hid (show (rMany r3 N s1).1 = (O ++ [(x0, x1, x2)]) ++ (rMany r3 (N - (k + 1)) st3).1 by
        rw [hrm.out, show N - k = (N - (k + 1)) + 1 by omega, rMany_succ, hr3]; simp)
      have HXO := hid (show P3I (x0, x1, x2) from ⟨i1, i2, i3⟩)
      have hl3 := hid (show st3.1.length ≤ 90000 by omega)
      have C1 := hid c1; have C2 := hid c2; have C3 := hid c3
      clear c1 c2 c3 l1 l2 l3 i1 i2 i3 h1 h2 h3 hr3 hrm hst
      have hlt' : (k : Int) < N := by omega
      go_wp2_with fail
      refine (C1.out wr HR.out (he.below HB.out)).mono ?_
      rintro e w3 ⟨rfl, hR, hg⟩
      have B3 := hid (bg HB.out hg (by rw [Hbq.out]; exact Nat.le_refl _))
      have R3 := hid hR
      have O3 := hid (show rwRK.Own w3 (b + 1) _ O from own_kept HO.out (fun q cs hv hb => hb.grown hg (fun e => by injection e with e; have := (own_blk HO.out q hv).1; omega)))
      clear hR hg HR HB HO C1
      go_wp2_with fail
      refine (C2.out w3 R3.out (he.below B3.out)).mono ?_
      rintro e w4 ⟨rfl, hR, hg⟩
      have B4 := hid (bg B3.out hg (by rw [Hbq.out]; exact Nat.le_refl _))
      have R4 := hid hR
      have O4 := hid (show rwRK.Own w4 (b + 1) _ O from own_kept O3.out (fun q cs hv hb => hb.grown hg (fun e => by injection e with e; have := (own_blk O3.out q hv).1; omega)))
      clear hR hg R3 B3 O3 C2
      go_wp2_with fail
      refine (C3.out w4 R4.out (he.below B4.out)).mono ?_
      rintro e w5 ⟨rfl, hR, hg⟩
      have B5 := hid (bg B4.out hg (by rw [Hbq.out]; exact Nat.le_refl _))
      have R5 := hid hR
      have O5 := hid (show rwRK.Own w5 (b + 1) _ O from own_kept O4.out (fun q cs hv hb => hb.grown hg (fun e => by injection e with e; have := (own_blk O4.out q hv).1; omega)))
      clear hR hg R4 B4 O4 C3
      have b6 := hid (show Below w5.heap.size w5 (w5.alloc (Obj.cells #[.int .i64 x0, .int .i64 x1, .int .i64 x2] 87)) by (repeat (first | exact Below.refl _ _ | assumption | refine below_drewN ?_ _ | refine Below.drew ?_ | refine Below.alloc ?_ (by (try simp); (try omega)) _ | refine Below.setCell ?_ (by (try simp); (try omega)) _)))
      have O6 := hid (show rwRK.Own (w5.alloc (Obj.cells #[.int .i64 x0, .int .i64 x1, .int .i64 x2] 87)) (b + 1) _ O from O5.out.below b6.out)
      have S6 := hid (show SlR (w5.alloc (Obj.cells #[.int .i64 x0, .int .i64 x1, .int .i64 x2] 87)) (w5.alloc (Obj.cells #[.int .i64 x0, .int .i64 x1, .int .i64 x2] 87)).heap.size (some ⟨w5.heap.size, 0, none⟩) [(x0, x1, x2)] from rwRK.blk (show Blk _ w5.heap.size rwRK.e (rwRK.all [(x0, x1, x2)]).toArray from Blk.new w5 _ _) (by intro x hx; rw [List.mem_singleton.1 hx]; exact HXO.out))
      have B6 := hid (B5.out.trans (b6.out.mono B5.out.size))
      have R6 := hid (show Rd (w5.alloc (Obj.cells #[.int .i64 x0, .int .i64 x1, .int .i64 x2] 87)) b st3.1 st3.2 from Blk.alloc R5.out _)
      have hz6 := hid (show b + 1 ≤ (w5.alloc (Obj.cells #[.int .i64 x0, .int .i64 x1, .int .i64 x2] 87)).heap.size by have := R6.out.lt; omega)
      have hlen6 := hid (show O.length + [(x0, x1, x2)].length ≤ 100000000 by simp; have := HOl.out; omega)
      clear R5 B5 O5
      go_upto_region 6 with (at_builtin; refine rwRK.appL _ rfl (.tmp 15) (.tmp 23) rfl rfl O6.out (ys := [(x0, x1, x2)]) (c := 1) rfl S6.out hlen6.out hz6.out ?_; intro A9 c9 w9 ho9 hg9; have O9 := hid ho9; have G9 := hid hg9; clear ho9 hg9)
      have R9 := hid (show Rd w9 b st3.1 st3.2 from Blk.grown R6.out G9.out (fun e => by have := (own_blk O6.out b e.symm).1; omega))
      have B9 := hid (B6.out.grown G9.out B6.out.size (fun q e => by have := (own_blk O6.out q e).1; rw [Hbq.out]; omega))
      clear R6 B6 O6 S6 G9 b6 hz6 hlen6
      go_wp2_with fail
      go_roundw
      case rel =>
        refine ⟨k + 1, O ++ [(x0, x1, x2)], st3, by omega, by go_num, by simp [HOl.out], ?_, ?_, R9.out, hl3.out, hrm2, B9.out⟩
        · exact O9.out
        · intro x hx
          rcases List.mem_append.1 hx with h | h
          · exact HOK.out x h
          · rw [List.mem_singleton.1 h]; exact HXO.out
      case measure => simp [intOf]; omega
    · obtain rfl : k = N := by omega
      have hO2 : outRows s.data.toList = O := by rw [Hout.out, hrm.out, Nat.sub_self]; simp [rMany]
      clear hrm hlt
      obtain ⟨A9, c9, rfl, hc1, hc2, hsO⟩ := HO.out.slr HOK.out
      have HS := hid hsO
      have Hc1 := hid hc1
      have Hc2 := hid hc2
      clear hsO hc1 hc2
      have HTB := hid (tbytes_any A9 c9 O wr (by rw [HOl.out]; omega) HS.out (he.below HB.out))
      go_wp2_with fail
      refine HTB.out.mono ?_
      rintro e w9 ⟨rfl, hB9⟩
      have B9 := hid (HB.out.trans (hB9.mono HB.out.size))
      have S9 := hid ((HS.out.below hB9).more hB9.size)
      clear hB9 HTB HS
      by_cases heq : encRows O = s.data.toList
      · have hr := hid (show readRows s.data.toList = some O by unfold readRows; rw [hO2, if_pos heq])
        have hc : ((bs (encRows O)).toList == s.toList) = true := by rw [heq, bs_of]; simp
        have hc2 : ((bs (encRows O)).toList != s.toList) = false := by rw [heq, bs_of]; simp
        clear heq hO2
        go_wp2_with fail
        refine bodyPost_ret (v := .tuple #[.slice A9 O.length c9, .bool true]) (by simp [results, Tryd.results12, go_sem]) rfl ?_
        rw [hr.out]
        exact ⟨A9, c9, rfl, Hc1.out, Hc2.out, S9.out, B9.out⟩
      · have hr := hid (show readRows s.data.toList = none by unfold readRows; rw [hO2, if_neg heq])
        have hne : (bs (encRows O)).toList ≠ s.toList := by
          intro h
          rw [bs_list, toList_data] at h
          exact heq h
        have hc : ((bs (encRows O)).toList == s.toList) = false := by simpa using hne
        have hc2 : ((bs (encRows O)).toList != s.toList) = true := by simpa using hne
        clear heq hne hO2
        go_wp2_with fail
        refine bodyPost_ret (v := .tuple #[.slice none 0 0, .bool false]) (by simp [results, Tryd.results12, go_sem]) rfl ?_
        rw [hr.out]
        exact ⟨rfl, B9.out⟩
end Go.Proofs.YtfpehakllnkaeaaDoor
namespace Go.Proofs.YtfpehakllnkaeaaDoor
open Go.RowKit Go.IntWalk

theorem nodup_sub {T : Type} [DecidableEq T] : ∀ (O L : List T), O.Nodup → (∀ x ∈ O, x ∈ L) → O.length ≤ L.length
  | [], _, _, _ => Nat.zero_le _
  | x :: O, L, hn, hs => by
    obtain ⟨h1, h2⟩ := List.nodup_cons.1 hn
    have hx := hs x (List.mem_cons_self ..)
    have ih := nodup_sub O (L.erase x) h2 (fun y hy => (List.mem_erase_of_ne (fun e => h1 (by subst e; exact hy))).2 (hs y (List.mem_cons_of_mem _ hy)))
    rw [List.length_erase_of_mem hx] at ih
    have := List.length_pos_of_mem hx
    simp only [List.length_cons]
    omega
/-- x's move leads to t. -/
def leads (g : Gm) (x : Row) (t : Int) : Prop := ∃ m, tMove g x.1 x.2.1 = some m ∧ t ∈ m.2
structure NInv (g : Gm) (rows : List Row) (pos : Int) (O : List Row) (Q : List Int) : Prop where
  mem : ∀ x ∈ O, tRow rows x.1 = some x
  nd : (O.map kP).Nodup
  cl : ∀ x ∈ O, ∀ t, leads g x t → t ∈ Q ∨ tRow rows t = none ∨ ∃ y ∈ O, y.1 = t
  st : pos ∈ Q ∨ tRow rows pos = none ∨ ∃ y ∈ O, y.1 = pos
  re : ∀ x ∈ O, x.1 = pos ∨ ∃ y ∈ O, leads g y x.1
  rq : ∀ t ∈ Q, t = pos ∨ ∃ y ∈ O, leads g y t
/-- What Needs returns. -/
structure NdR (g : Gm) (rows : List Row) (pos : Int) (l : List Row) : Prop where
  asc : Asc kP l
  mem : ∀ x ∈ l, tRow rows x.1 = some x
  cl : ∀ x ∈ l, ∀ t, leads g x t → tRow rows t = none ∨ ∃ y ∈ l, y.1 = t
  st : tRow rows pos = none ∨ ∃ y ∈ l, y.1 = pos
  re : ∀ x ∈ l, x.1 = pos ∨ ∃ y ∈ l, leads g y x.1
section
variable {g : Gm} {rows : List Row} {pos p : Int} {O : List Row} {Q : List Int}
theorem NInv.start (g : Gm) (rows : List Row) (pos : Int) : NInv g rows pos [] [pos] :=
  ⟨by simp, List.nodup_nil, by simp, .inl (by simp), by simp, fun t ht => .inl (by simpa using ht)⟩
/-- A position that has no row, or has been seen. -/
theorem NInv.skip (h : NInv g rows pos O (p :: Q)) (hp : tRow rows p = none ∨ ∃ y ∈ O, y.1 = p) : NInv g rows pos O Q := by
  refine ⟨h.mem, h.nd, fun x hx t ht => ?_, ?_, h.re, fun t ht => h.rq t (List.mem_cons_of_mem _ ht)⟩
  · rcases h.cl x hx t ht with h1 | h1
    · rcases List.mem_cons.1 h1 with rfl | h1
      · exact .inr hp
      · exact .inl h1
    · exact .inr h1
  · rcases h.st with h1 | h1
    · rcases List.mem_cons.1 h1 with rfl | h1
      · exact .inr hp
      · exact .inl h1
    · exact .inr h1
/-- A new row: its move's positions go into the queue. -/
theorem NInv.add (h : NInv g rows pos O (p :: Q)) {r : Row} (hr : tRow rows p = some r) (hn : ∀ y ∈ O, y.1 ≠ p) {ys : List Int} (hy : ∀ t, leads g r t ↔ t ∈ ys) : NInv g rows pos (O ++ [r]) (Q ++ ys) := by
  obtain ⟨hrm, hrp⟩ := look_mem hr
  simp only [kP] at hrp
  have up : ∀ {t : Int}, (∃ y ∈ O, y.1 = t) → ∃ y ∈ O ++ [r], y.1 = t := fun ⟨y, hy, e⟩ => ⟨y, List.mem_append_left _ hy, e⟩
  have upl : ∀ {t : Int}, (∃ y ∈ O, leads g y t) → ∃ y ∈ O ++ [r], leads g y t := fun ⟨y, hy, e⟩ => ⟨y, List.mem_append_left _ hy, e⟩
  have me : ∃ y ∈ O ++ [r], y.1 = p := ⟨r, by simp, hrp⟩
  refine ⟨fun x hx => ?_, ?_, fun x hx t ht => ?_, ?_, fun x hx => ?_, fun t ht => ?_⟩
  · rcases List.mem_append.1 hx with hx | hx
    · exact h.mem x hx
    · rw [List.mem_singleton.1 hx, hrp]; exact hr
  · rw [List.map_append, List.nodup_append]
    refine ⟨h.nd, by simp, ?_⟩
    intro a ha b hb e
    simp only [List.map_cons, List.map_nil, List.mem_singleton] at hb
    obtain ⟨y, hy, rfl⟩ := List.mem_map.1 ha
    exact hn y hy (by simp only [kP] at e hb; omega)
  · rcases List.mem_append.1 hx with hx | hx
    · rcases h.cl x hx t ht with h1 | h1 | h1
      · rcases List.mem_cons.1 h1 with rfl | h1
        · exact .inr (.inr me)
        · exact .inl (List.mem_append_left _ h1)
      · exact .inr (.inl h1)
      · exact .inr (.inr (up h1))
    · rw [List.mem_singleton.1 hx] at ht
      exact .inl (List.mem_append_right _ ((hy t).1 ht))
  · rcases h.st with h1 | h1 | h1
    · rcases List.mem_cons.1 h1 with rfl | h1
      · exact .inr (.inr me)
      · exact .inl (List.mem_append_left _ h1)
    · exact .inr (.inl h1)
    · exact .inr (.inr (up h1))
  · rcases List.mem_append.1 hx with hx | hx
    · exact (h.re x hx).imp id upl
    · rw [List.mem_singleton.1 hx, hrp]
      exact (h.rq p (List.mem_cons_self ..)).imp id upl
  · rcases List.mem_append.1 ht with ht | ht
    · exact (h.rq t (List.mem_cons_of_mem _ ht)).imp id upl
    · exact .inr ⟨r, by simp, (hy t).2 ht⟩
theorem NInv.sub (h : NInv g rows pos O Q) : O.length ≤ rows.length := by
  have h1 : O.Nodup := List.Pairwise.of_map kP (fun a b h e => h (by rw [e])) h.nd
  exact nodup_sub O rows h1 (fun x hx => (look_mem (h.mem x hx)).1)
theorem NInv.done (h : NInv g rows pos O []) {l : List Row} (hp : l.Perm O) (hs : l.Pairwise (fun a b => a.1 ≤ b.1)) : NdR g rows pos l := by
  have hm : ∀ x, x ∈ l ↔ x ∈ O := fun x => hp.mem_iff
  have hnd : (l.map kP).Nodup := (hp.map kP).nodup_iff.2 h.nd
  refine ⟨List.pairwise_iff_getElem.2 fun i j hi hj hij => ?_, fun x hx => h.mem x ((hm x).1 hx), fun x hx t ht => ?_, ?_, fun x hx => ?_⟩
  · have h1 := List.pairwise_iff_getElem.1 hs i j hi hj hij
    have h2 := List.pairwise_iff_getElem.1 hnd i j (by rw [List.length_map]; exact hi) (by rw [List.length_map]; exact hj) hij
    rw [List.getElem_map, List.getElem_map] at h2
    simp only [kP] at h2 ⊢
    omega
  · rcases h.cl x ((hm x).1 hx) t ht with h1 | h1 | ⟨y, hy, e⟩
    · cases h1
    · exact .inl h1
    · exact .inr ⟨y, (hm y).2 hy, e⟩
  · rcases h.st with h1 | h1 | ⟨y, hy, e⟩
    · cases h1
    · exact .inl h1
    · exact .inr ⟨y, (hm y).2 hy, e⟩
  · rcases h.re x ((hm x).1 hx) with h1 | ⟨y, hy, e⟩
    · exact .inl h1
    · exact .inr ⟨y, (hm y).2 hy, e⟩
end
end Go.Proofs.YtfpehakllnkaeaaDoor
namespace Go.Proofs.YtfpehakllnkaeaaDoor
open Go.RowKit Go.IntWalk

theorem gr_setCells (g : Nat) : ∀ (vs : List Value) (o : Nat) (w : World), w.grownBy (w.setCells g o vs) (some g)
  | [], _, w => World.grownBy.refl _ _
  | v :: r, o, w => gr_tr (gr_set w g o v) (gr_setCells g r (o + 1) _)
theorem blk_setCells : ∀ (vs : List Value) (o : Nat) {w : World} {g : Nat} {t : TypeId} {cs : Array Value}, Blk w g t cs → ∃ cs', Blk (w.setCells g o vs) g t cs' ∧ cs'.size = cs.size
  | [], _, _, _, _, cs, h => ⟨cs, h, rfl⟩
  | v :: r, o, _, _, _, cs, h => by
    obtain ⟨cs', h1, h2⟩ := blk_setCells r (o + 1) (h.set_ o v)
    exact ⟨cs', h1, by rw [h2]; simp⟩
/-- v is a slice of the call's own, anywhere in its block g, that holds the list. -/
def QR (w : World) (base g : Nat) (v : Value) (l : List Int) : Prop :=
  ∃ o c cur, v = .slice (some ⟨g, o, none⟩) l.length c ∧ base ≤ g ∧ Blk w g 3 cur ∧ l.length ≤ c ∧ c ≤ maxLen ∧ o + c ≤ cur.size ∧ ∀ j (h : j < l.length), w.cell? ⟨g, o + j, none⟩ = some (.int .i64 l[j])
section
variable {w w' : World} {base g : Nat} {v : Value} {l : List Int}
theorem QR.kept (h : QR w base g v l) (hb : ∀ cur, Blk w g 3 cur → Blk w' g 3 cur) : QR w' base g v l := by
  obtain ⟨o, c, cur, rfl, h1, h2, h3, h4, h5, h6⟩ := h
  exact ⟨o, c, cur, rfl, h1, hb _ h2, h3, h4, h5, fun j hj => by rw [(hb _ h2).cell, ← h2.cell]; exact h6 j hj⟩
theorem QR.below (h : QR w base g v l) (hb : Below w.heap.size w w') : QR w' base g v l := h.kept (fun _ h2 => h2.below hb h2.lt)
theorem QR.grown {row : Option Nat} (h : QR w base g v l) (hg : w.grownBy w' row) (hne : some g ≠ row) : QR w' base g v l := h.kept (fun _ h2 => h2.grown hg hne)
theorem QR.blk (h : QR w base g v l) : base ≤ g ∧ ∃ cur, Blk w g 3 cur := by
  obtain ⟨o, c, cur, rfl, h1, h2, -⟩ := h
  exact ⟨h1, cur, h2⟩
theorem QR.one (w : World) (q : Int) : QR (w.alloc (Obj.cells #[.int .i64 q] 3)) w.heap.size w.heap.size (.slice (some ⟨w.heap.size, 0, none⟩) 1 1) [q] :=
  ⟨0, 1, #[.int .i64 q], rfl, Nat.le_refl _, Blk.new w _ _, Nat.le_refl _, by unfold maxLen; omega, by simp, fun j hj => by
    have : j = 0 := by simpa using hj
    subst this
    simp⟩
theorem QR.base_ {b2 : Nat} (h : QR w base g v l) (hb : b2 ≤ base) : QR w b2 g v l := by
  obtain ⟨o, c, cur, rfl, h1, h⟩ := h
  exact ⟨o, c, cur, rfl, Nat.le_trans hb h1, h⟩
/-- The head is struck off: where room is left behind it, and where none is. -/
theorem QR.tail {x : Int} (h : QR w base g v (x :: l)) : ∃ o c, v = .slice (some ⟨g, o, none⟩) (l.length + 1) c ∧ l.length + 1 ≤ c ∧ c ≤ maxLen ∧ g < w.heap.size ∧ w.cell? ⟨g, o, none⟩ = some (.int .i64 x) ∧
    (1 < c → QR w base g (.slice (some ⟨g, o + 1, none⟩) l.length (c - 1)) l) ∧ (c = 1 → l = [] ∧ QR w base g (.slice (some ⟨g, o, none⟩) 0 0) []) := by
  obtain ⟨o, c, cur, rfl, h1, h2, h3, h4, h5, h6⟩ := h
  refine ⟨o, c, rfl, h3, h4, h2.lt, by have := h6 0 (by simp); simpa using this, fun hc => ?_, fun hc => ?_⟩
  · refine ⟨o + 1, c - 1, cur, rfl, h1, h2, by simp at h3; omega, by omega, by omega, fun j hj => ?_⟩
    have := h6 (j + 1) (by simp; omega)
    rw [show o + 1 + j = o + (j + 1) by omega, this]
    simp
  · have hl : l = [] := List.eq_nil_of_length_eq_zero (by simp at h3; omega)
    exact ⟨hl, ⟨o, 0, cur, rfl, h1, h2, by simp, by omega, by omega, fun j hj => by simp at hj⟩⟩
/-- append of a list that can be read. -/
theorem QR.run_app {B c : Nat} {A : Option Addr} (h : QR w base g v l) {ys : List Int} (hs : SlR w B A ys) (hys : 0 < ys.length) (ty : TypeId) (hlen : l.length + ys.length ≤ 10000000) (hbase : base ≤ w.heap.size) :
    ∃ g' v' w', (Builtin.append_ #[91, 91] ty #[v, .slice A ys.length c]).run Tryd.prog w = .ok v' w' ∧ QR w' base g' v' (l ++ ys) ∧ w.grownBy w' (some g) := by
  obtain ⟨i0, hi, hz0, hz1, hz2⟩ := info_parts infoInt
  obtain ⟨b, off, rfl, hb, hcell⟩ := hs.int_cells hys
  obtain ⟨o, cc, cur, rfl, h1, h2, h3, h4, h5, h6⟩ := h
  have hsrc : Src Tryd.prog i0.size 91 (.slice (some ⟨b, off, none⟩) ys.length c) ys.length (ys.map (Value.int .i64)) w :=
    Src.ofSlice w Tryd.underlying91 ⟨b, off, none⟩ ys.length c _ (by rw [hz1]; simp) hcell (fun u hu => by obtain ⟨y, _, rfl⟩ := List.mem_map.1 hu; rfl)
  by_cases hr : l.length + ys.length ≤ cc
  · have hrun := run_append_room_src (P := Tryd.prog) w 91 91 ty 3 i0 Tryd.underlying91 hi g o l.length cc _ ys.length _ hsrc hr
      (fun j hj => by
        rw [hz1, Nat.mul_one, h2.cell]
        have : o + l.length + j < cur.size := by simp at hj; omega
        rw [Array.getElem?_eq_getElem this]; rfl) (fun j _ => h2.frozen _)
    rw [hz1, Nat.mul_one] at hrun
    obtain ⟨cur', hb', hsz'⟩ := blk_setCells (ys.map (Value.int .i64)) (o + l.length) h2
    refine ⟨g, _, _, hrun, ⟨o, cc, cur', by rw [List.length_append], h1, hb', by rw [List.length_append]; exact hr, h4, by rw [hsz']; exact h5, fun j hj => ?_⟩, gr_setCells _ _ _ _⟩
    rw [List.length_append] at hj
    by_cases hjl : j < l.length
    · rw [World.cell?_setCells_out g _ _ _ _ (fun _ _ => Or.inl (by simp; omega)), h6 j hjl, List.getElem_append_left hjl]
    · have := World.cell?_setCells_in g (ys.map (Value.int .i64)) (o + l.length) w (fun i hi => by
        rw [h2.cell]
        have : o + l.length + i < cur.size := by simp at hi; omega
        rw [Array.getElem?_eq_getElem this]; rfl) (j - l.length) (by simp; omega)
      rw [show o + l.length + (j - l.length) = o + j by omega] at this
      rw [this, List.getElem_map, List.getElem_append_right (by omega)]
  · have hold : (Builtin.firstCells i0.size l.length (.slice (some ⟨g, o, none⟩) l.length cc)).run Tryd.prog w.drew = .ok (l.map (Value.int .i64)).toArray w.drew := by
      refine run_firstCells_some w.drew i0.size l.length ⟨g, o, none⟩ l.length cc _ (by rw [hz1]; simp) (fun j u hu => ?_)
      rw [List.getElem?_map] at hu
      cases hj : l[j]? with
      | none => rw [hj] at hu; cases hu
      | some x =>
        rw [hj] at hu
        simp only [Option.map_some, Option.some.injEq] at hu
        subst hu
        obtain ⟨hjl, rfl⟩ := List.getElem?_eq_some_iff.1 hj
        have := h6 j hjl
        show w.cell? _ = _
        unfold Addr.add
        by_cases h0 : j = 0
        · subst h0; first | (simp; done) | simpa using this
        · simp only [h0, if_false]; exact this
    have hrun := run_append_grow_src (P := Tryd.prog) w 91 91 ty 3 i0 _ Tryd.underlying91 hi hz0 (some ⟨g, o, none⟩) l.length cc _ hold _ ys.length _ hsrc (by omega) (by omega) (growslice_fits (by omega) (by rw [hz2]; omega))
    have hge := grownCap_ge w (l.length + ys.length) cc 3
    have hcm := grownCap_le_maxLen w (l.length + ys.length) cc 3 (by unfold maxLen; omega)
    refine ⟨w.heap.size, _, _, hrun, ⟨0, _, _, by rw [List.length_append], hbase, Blk.new w.drew _ _, by rw [List.length_append]; exact hge, hcm, ?_, fun j hj => ?_⟩, gr_below (((Below.refl w.heap.size w).drew).alloc (Nat.le_refl _) _) _⟩
    · rw [Nat.zero_add, Array.size_append, List.size_toArray, List.length_append, List.length_map, List.length_map]
      have : (Builtin.zeroCells (Value.int IntKind.i64 0).cells (grownCap w (l.length + ys.length) cc 3 - (l.length + ys.length))).size = grownCap w (l.length + ys.length) cc 3 - (l.length + ys.length) := by simp [Builtin.zeroCells, Value.cells]
      rw [this]; omega
    · have e1 : (w.drew.alloc (.cells ((l.map (Value.int .i64) ++ ys.map (Value.int .i64)).toArray ++ Builtin.zeroCells (Value.int IntKind.i64 0).cells (grownCap w (l.length + ys.length) cc 3 - (l.length + ys.length))) 3)).cell? ⟨w.heap.size, 0 + j, none⟩ = _ := World.cell?_alloc_new w.drew _ _ (0 + j)
      rw [Nat.zero_add] at e1
      rw [Nat.zero_add, e1, Array.getElem?_append_left (by simpa using hj), List.getElem?_toArray, ← List.map_append, List.getElem?_map, List.getElem?_eq_getElem hj]
      rfl
end
section
variable {ops : Array Oper} {rest : List Oper} {o : Oper} {a : Act} {Q : Exit → Act → World → Prop}
theorem wp_appQ (w : World) (hgd : o.guard = none) (s x : Operand) (ho : o.op = .call { callee := .builtin .append, args := #[s, x], argTypes := #[91, 91] })
    (base g : Nat) (v : Value) (l : List Int) (hs : a.eval s = v) (hown : QR w base g v l) (B c : Nat) (A : Option Addr) (ys : List Int) (hx : a.eval x = .slice A ys.length c) (hr : SlR w B A ys) (hys : 0 < ys.length) (hlen : l.length + ys.length ≤ 10000000) (hbase : base ≤ w.heap.size)
    (h : ∀ g' A' c' w', QR w' base g' (.slice A' (l ++ ys).length c') (l ++ ys) → w.grownBy w' (some g) → wpList Tryd.prog ops Q rest (a.put o.dst (.slice A' (l ++ ys).length c')) w') : wpList Tryd.prog ops Q (o :: rest) a w := by
  obtain ⟨g', v', w', hrun, h2, h3⟩ := hown.run_app (c := c) hr hys o.type hlen hbase
  have h2' := h2
  obtain ⟨o', cc, cur, rfl, -⟩ := h2
  refine wpList_plain hgd fun K hK => ?_
  unfold Oper.wp execOp
  simp only [ho, resolve, invoke, builtin, Sem.run_bind, Sem.run_pure, Result.andThen_ok, List.map_toArray, List.map_cons, List.map_nil, hs, hx, hrun]
  exact hK _ _ (h _ _ _ _ h2' h3)
end
end Go.Proofs.YtfpehakllnkaeaaDoor
namespace Go.Proofs.YtfpehakllnkaeaaDoor
open Go.RowKit Go.IntWalk Go.Maps Go.WideMaps

theorem plainElem_bool_inv {H : Type} {P : Program} {e : TypeId} (he : P.underlying e = some .bool) {v : Value} {z : DataW H × List MemPlace} (h : plainElem P e v = some z) : ∃ a, v = .bool a ∧ z = (.lit (.bool a), []) := by
  unfold plainElem at h
  rw [he] at h
  cases v <;> simp at h
  exact ⟨_, rfl, h.symm⟩
/-- A look-up in a map of bools of the call's own. -/
theorem look_bool {H : Type} {P : Program} {w : World} {t k e : TypeId} {b n : Nat} {D : DataW H} (h : w.ownsMap P k (plainElem P e) b n D) (K : Keyed P k) (ht : P.underlying t = some (.map k e)) (he : P.underlying e = some .bool) (hz : (zeroValue e).run P w = .ok (.bool false) w)
    {key : Value} {kl : Lit} (hkey : keyOf P k key = some kl) : ∃ c, (Instr.lookup t (.map (some b)) key false).run P w = .ok (.bool c) w ∧ D.atKey kl (.lit (.bool false)) = .lit (.bool c) := by
  obtain ⟨v, ps, hrun, hv⟩ := h.lookup K ht hz (plainElem_bool he false) hkey
  obtain ⟨c, rfl, hc⟩ := plainElem_bool_inv he hv
  simp only [Prod.mk.injEq] at hc
  exact ⟨c, hrun, hc.1⟩
/-- The set of these numbers. -/
def setI (l : List Int) : DataW Unit := l.foldl (fun D s => D.put (.int .i64 s) (.lit (.bool true))) (.map [])
theorem setI_snoc (l : List Int) (s : Int) : setI (l ++ [s]) = (setI l).put (.int .i64 s) (.lit (.bool true)) := by unfold setI; rw [List.foldl_append]; rfl
theorem rev_ind {α : Type} {p : List α → Prop} (h0 : p []) (h1 : ∀ l x, p l → p (l ++ [x])) (l : List α) : p l := by
  have : ∀ n (l : List α), l.length = n → p l := by
    intro n
    induction n with
    | zero => intro l hl; rw [List.eq_nil_of_length_eq_zero hl]; exact h0
    | succ n ih =>
      intro l hl
      have hne : l ≠ [] := by intro e; rw [e] at hl; simp at hl
      have := h1 l.dropLast (l.getLast hne) (ih _ (by simp; omega))
      rwa [List.dropLast_concat_getLast] at this
  exact this _ l rfl
theorem setI_map (l : List Int) : IsMap (setI l) := by
  induction l using rev_ind with
  | h0 => exact isMap_empty
  | h1 l x ih => rw [setI_snoc]; exact ih.put _ _
theorem setI_at (l : List Int) (s : Int) : (setI l).atKey (.int .i64 s) (.lit (.bool false)) = .lit (.bool (l.any (fun y => decide (s = y)))) := by
  induction l using rev_ind with
  | h0 => rfl
  | h1 l x ih =>
    rw [setI_snoc]
    by_cases e : s = x
    · subst e
      rw [atKey_put_same (k := .int .i64 s) (setI_map l) trivial]
      simp
    · rw [atKey_put_other (fun h => e (by injection h))]
      rw [ih]
      simp [e]
theorem zeroBool (w : World) : (zeroValue 4).run Tryd.prog w = .ok (.bool false) w := by kernel_rfl
theorem lawInt : Keyed Tryd.prog 3 := int_keyed Tryd.underlying3
theorem map_ne_blk {H : Type} {P : Program} {k : TypeId} {R : Value → Option (DataW H × List MemPlace)} {w : World} {b n g : Nat} {D : DataW H} {t : TypeId} {cs : Array Value} (h : w.ownsMap P k R b n D) (hb : Blk w g t cs) : b ≠ g := by
  obtain ⟨es, clock, hm, _⟩ := h
  rintro rfl
  unfold Blk at hb
  rw [hm] at hb
  cases hb
end Go.Proofs.YtfpehakllnkaeaaDoor
namespace Go.Proofs.YtfpehakllnkaeaaDoor
open Go.RowKit Go.IntWalk Go.Shelf Go.Maps Go.WideMaps

def lenV : Value → Nat
  | .slice _ n _ => n
  | _ => 0
theorem sortnil_any (w : World) : Calls Tryd.prog 56 #[.slice none 0 0, .func (.func 57) #[] #[]] w fun e w' => e = .returned (.tuple #[]) ∧ w' = w :=
  AnyF.slices_SortFunc_none laysSort none 0 (.func (.func 57) #[] #[]) w
set_option maxRecDepth 100000 in
set_option maxHeartbeats 8000000 in
theorem needs_any (Ag Am B : Option Addr) (cg cm c : Nat) (g : Gm) (rows : List Row) (pos : Int) (w : World) (h : GmR w w.heap.size Ag Am g) (hr : rightL g = true) (hg : GmOK g) (hl : rows.length ≤ 1000) (ha : Asc kP rows) (h1 : SlR w w.heap.size B rows) (hpos : I64 pos) :
    Calls Tryd.prog 41 #[.agg #[.slice Ag g.1.length cg, .slice Am g.2.length cm], .slice B rows.length c, .int .i64 pos] w fun e w' => ∃ v l, e = .returned v ∧ rwRK.Own w' w.heap.size v l ∧ NdR g rows pos l ∧ Below w.heap.size w w' := by
  have hmm := @run_makeMap Tryd.prog
  obtain ⟨w1, hw1⟩ : ∃ w1, w1 = w.alloc (Obj.cells #[.slice Ag g.1.length cg, .slice Am g.2.length cm] 84) := ⟨_, rfl⟩
  have B1 := hid (show Below w.heap.size w w1 by rw [hw1]; (repeat (first | exact Below.refl _ _ | assumption | refine below_drewN ?_ _ | refine Below.drew ?_ | refine Below.alloc ?_ (by (try simp); (try omega)) _ | refine Below.setCell ?_ (by (try simp); (try omega)) _)))
  have X1 := hid (show Blk w1 w.heap.size 84 #[.slice Ag g.1.length cg, .slice Am g.2.length cm] by rw [hw1]; exact Blk.new w _ _)
  have HR := hid h1
  have HROK := hid (rwRK.oks h1)
  have HMV := hid (fun (q a : Int) (W : World) (hW : Below w.heap.size w W) => tmove_any Ag Am cg cm g q a W (h.to hW) hr hg)
  have HRW := hid (fun (t : Int) (W : World) (hW : Below w.heap.size w W) => trow_any B c rows t W (by omega) ha ((h1.below hW).more hW.size))
  have HNE := hid (fun (p : Nat) (m : Mv) (hm : m ∈ g.2.getD p []) => mvs_ne hr hm)
  have HML := hid (show ∀ (p : Int) (a : Int) (m : Mv), tMove g p a = some m → m.2.length ≤ 1000 from fun p a m hm => by
    obtain ⟨hp, hmm, -⟩ := tMove_mem hm
    have hp := isP_iff.1 hp
    have hpn : p.toNat < g.2.length := by have := hg.n; omega
    rw [show g.2.getD p.toNat [] = g.2[p.toNat] by simp [hpn]] at hmm
    exact (hg.m _ (List.getElem_mem hpn) m hmm).1)
  have HGL := hid hg.s
  clear h h1 hr hg ha
  go_enter Tryd.func41, Tryd.ntmps41
  go_upto_region 1 with fail
  rw [← hw1]
  clear hw1
  have M2 := hid (show (w1.alloc (Obj.map #[] 0)).ownsMap Tryd.prog 3 (plainElem Tryd.prog 4) w1.heap.size 0 (setI []) from World.ownsMap_made _ _ _ _)
  have M3 := hid (M2.out.alloc (Obj.cells #[.int .i64 pos] 3))
  have Q3 := hid ((QR.one (w1.alloc (Obj.map #[] 0)) pos).base_ (show w.heap.size ≤ _ by have := B1.out.size; simp; omega))
  have B3 := hid ((B1.out.alloc B1.out.size (Obj.map #[] 0)).alloc (by have := B1.out.size; simp; omega) (Obj.cells #[.int .i64 pos] 3))
  have X3 := hid ((X1.out.alloc (Obj.map #[] 0)).alloc (Obj.cells #[.int .i64 pos] 3))
  have hmz := hid (B1.out.size)
  go_upto_region 4 with fail
  rw [show (w1.alloc (Obj.map #[] 0)).heap.size = w1.heap.size + 1 by simp] at Q3
  generalize ((w1.alloc (Obj.map #[] 0)).alloc (Obj.cells #[.int .i64 pos] 3)) = w3 at *
  generalize w1.heap.size = bm at *
  clear M2 B1 X1 hmm
  go_loopw [8, 9, 10, 11, 12, 13, 14] (fun ov qv _ _ _ _ _ wr => ∃ (O : List Row) (Q : List Int) (gq : Nat), rwRK.Own wr w.heap.size ov O ∧ QR wr w.heap.size gq qv Q ∧ wr.ownsMap Tryd.prog 3 (plainElem Tryd.prog 4) bm O.length (setI (O.map kP)) ∧ NInv g rows pos O Q ∧ Below w.heap.size w wr ∧ Blk wr w.heap.size 84 #[.slice Ag g.1.length cg, .slice Am g.2.length cm] ∧ Q.length ≤ 1 + 1000 * O.length ∧ ∀ t ∈ Q, I64 t) (fun ov qv _ _ _ _ _ _ => (rows.length - lenV ov) * 2000 + lenV qv)
  case atStart => exact ⟨[], [pos], bm + 1, RK.Own.nil, Q3.out, M3.out, NInv.start g rows pos, B3.out, X3.out, by simp, fun t ht => by simp at ht; subst ht; exact hpos⟩
  case round =>
    clear M3 Q3 B3 X3
    obtain ⟨O, Q, gq, ho, hq, hm, hinv, hB, hX, hql, hqi⟩ := hrel
    have HO := hid ho; have HQ := hid hq; have HM := hid hm; have HI := hid hinv; have BR := hid hB; have XR := hid hX; have HQI := hid hqi
    clear ho hq hm hinv hB hX hqi
    cases Q with
    | nil =>
      obtain ⟨o, qc, cur, rfl, -⟩ := HQ.out
      have hsub := HI.out.sub
      rcases HO.out.2 with ⟨hv, h0⟩ | ⟨gO, cO, cur2, hv, -⟩
      · have hO0 : O = [] := List.eq_nil_of_length_eq_zero h0
        subst hO0
        have hv' : u8 = .slice none 0 0 := hv
        clear hv
        subst hv'
        have hnd := hid (HI.out.done (List.Perm.refl _) List.Pairwise.nil)
        have HSN := hid (sortnil_any wr)
        clear HI hsub
        as_aux_lemma =>
          go_wp2_with fail
          refine HSN.out.mono ?_
          rintro e w5 ⟨rfl, rfl⟩
          go_wp2_with fail
          go_ret
          exact ⟨_, [], rfl, HO.out, hnd.out, BR.out⟩
      · have hv' : u8 = .slice (some ⟨gO, 0, none⟩) O.length cO := hv
        clear hv
        subst hv'
        have HS := hid (sortr_any w.heap.size gO cO O wr (by omega) HO.out)
        have HBL := hid (own_blk HO.out gO rfl)
        have HDN := hid (fun (l : List Row) (h1 : l.Perm O) (h2 : l.Pairwise (fun a b => a.1 ≤ b.1)) => HI.out.done h1 h2)
        clear HI hsub HO
        as_aux_lemma =>
          go_wp2_with fail
          refine HS.out.mono ?_
          rintro e w5 ⟨rfl, l, h1, h2, h3, h4⟩
          have H3 := hid h3
          have H12 := hid (HDN.out l h1 h2)
          have B5 := hid (BR.out.grown h4 BR.out.size (fun q e => by injection e with e; subst e; exact HBL.out.1))
          clear h1 h2 h3 h4
          go_wp2_with fail
          go_ret
          exact ⟨_, l, rfl, H3.out, H12.out, B5.out⟩
    | cons p Q =>
    obtain ⟨o, qc, rfl, hc1, hc2, hgz, hcell, ht1, ht2⟩ := HQ.out.tail
    have HT1 := hid ht1; have HT2 := hid ht2
    have hqlI : (0 : Int) < (Q.length : Int) + 1 := by omega
    clear ht1 ht2
    go_upto_region 7 with fail
    have HQ2 := hid (show QR wr w.heap.size gq (.slice (if qc = 1 then some ⟨gq, o, none⟩ else some ⟨gq, o + 1, none⟩) Q.length (qc - 1)) Q by
      by_cases e : qc = 1
      · obtain ⟨e2, h2⟩ := HT2.out e
        subst e2
        simp only [e, if_true]
        exact h2
      · simp only [e, if_false]
        exact HT1.out (by omega))
    have hqn := hid (show qc - 1 ≤ maxLen by omega)
    clear HT1 HT2 HQ hcell hqlI hc1 hc2 hgz
    generalize (if qc = 1 then some (⟨gq, o, none⟩ : Addr) else some ⟨gq, o + 1, none⟩) = aq at *
    generalize qc - 1 = qd at *
    have hpi := HQI.out p (List.mem_cons_self ..)
    have hqi2 := hid (fun t (ht : t ∈ Q) => HQI.out t (List.mem_cons_of_mem _ ht))
    have hql2 : Q.length ≤ 1000 * O.length := by simp at hql; omega
    have HKE := hid (show keyOf Tryd.prog 3 (.int .i64 p) = some (.int .i64 p) from keyOf_int_mk Tryd.underlying3 (by show (decide ((-9223372036854775808 : Int) ≤ p) && decide (p ≤ (9223372036854775807 : Int))) = true; simp only [Bool.and_eq_true, decide_eq_true_eq]; exact hpi))
    have hOl := HI.out.sub
    have HC := hid (HRW.out p wr BR.out)
    clear hql HQI
    go_wp2_with fail
    refine HC.out.mono ?_
    rintro e w5 ⟨hrr, hB⟩
    have B5 := hid (BR.out.trans (hB.mono BR.out.size))
    have X5 := hid (XR.out.below hB XR.out.lt)
    have O5 := hid (show rwRK.Own w5 w.heap.size _ O from HO.out.below hB)
    have Q5 := hid (HQ2.out.below hB)
    have M5 := hid (HM.out.kept (gr_below hB none) (by simp))
    clear hB HC BR XR HO HQ2 HM
    rcases hrr with ⟨x, hx, hxm, rfl⟩ | ⟨hx, rfl⟩
    case inr =>
      have hI2 := hid (HI.out.skip (.inl hx))
      have b6 := hid (show Below w5.heap.size w5 (w5.alloc (Obj.cells #[.int .i64 0, .int .i64 0, .int .i64 0] 87)) by (repeat (first | exact Below.refl _ _ | assumption | refine below_drewN ?_ _ | refine Below.drew ?_ | refine Below.alloc ?_ (by (try simp); (try omega)) _ | refine Below.setCell ?_ (by (try simp); (try omega)) _)))
      have O6 := hid (show rwRK.Own _ w.heap.size _ O from O5.out.below b6.out)
      have Q6 := hid (Q5.out.below b6.out)
      have M6 := hid (M5.out.alloc (Obj.cells #[.int .i64 0, .int .i64 0, .int .i64 0] 87))
      have X6 := hid (X5.out.below b6.out X5.out.lt)
      have B6 := hid (B5.out.trans (b6.out.mono B5.out.size))
      clear hx HI O5 Q5 M5 X5 B5 b6
      as_aux_lemma =>
        go_wp2_with fail
        go_roundw
        case rel => exact ⟨O, Q, gq, O6.out, Q6.out, M6.out, hI2.out, B6.out, X6.out, by omega, hqi2.out⟩
        case measure => simp [lenV]
    have hxok := HROK.out x hxm
    have hxp := (look_mem hx).2
    obtain ⟨x0, x1, x2⟩ := x
    simp only [kP] at hxp
    subst hxp
    have HX := hid hx
    have HXO := hid (show RowI (x0, x1, x2) from hxok)
    clear hx hxm hxok
    obtain ⟨w6, hw6⟩ : ∃ w6, w6 = w5.alloc (Obj.cells #[.int .i64 x0, .int .i64 x1, .int .i64 x2] 87) := ⟨_, rfl⟩
    have b6 := hid (show Below w5.heap.size w5 w6 by rw [hw6]; (repeat (first | exact Below.refl _ _ | assumption | refine below_drewN ?_ _ | refine Below.drew ?_ | refine Below.alloc ?_ (by (try simp); (try omega)) _ | refine Below.setCell ?_ (by (try simp); (try omega)) _)))
    have Y6 := hid (show Blk w6 w5.heap.size 87 #[.int .i64 x0, .int .i64 x1, .int .i64 x2] by rw [hw6]; exact Blk.new w5 _ _)
    have O6 := hid (show rwRK.Own w6 w.heap.size _ O from O5.out.below b6.out)
    have Q6 := hid (Q5.out.below b6.out)
    have M6 := hid (M5.out.kept (gr_below b6.out none) (by simp))
    have X6 := hid (X5.out.below b6.out X5.out.lt)
    have B6 := hid (B5.out.trans (b6.out.mono B5.out.size))
    obtain ⟨cc, hrun, hat⟩ := look_bool M6.out lawInt Tryd.underlying113 Tryd.underlying4 (zeroBool _) HKE.out
    rw [setI_at] at hat
    have hcc := hid (show (O.map kP).any (fun y => decide (x0 = y)) = cc by injection hat with hat; injection hat)
    have HLV := hid (show lenV u8 = O.length by obtain ⟨A', c', e⟩ := O5.out.form; rw [e]; rfl)
    have HOL := hid (fun q (e : u8.ownBlock = some q) => show q ≠ w5.heap.size from by obtain ⟨-, cs, hb⟩ := own_blk O5.out q e; exact Nat.ne_of_lt hb.lt)
    clear hat O5 Q5 M5 X5 B5 b6
    go_upto_region 8 with fail
    rw [← hw6]
    clear hw6
    cases cc with
    | true =>
      have hI2 := hid (HI.out.skip (.inr (by
        have := hcc.out
        rw [List.any_eq_true] at this
        obtain ⟨y, hy, e⟩ := this
        obtain ⟨z, hz, rfl⟩ := List.mem_map.1 hy
        simp only [decide_eq_true_eq] at e
        exact ⟨z, hz, e.symm⟩)))
      clear HI hcc
      as_aux_lemma =>
        go_wp2_with fail
        go_roundw
        case rel => exact ⟨O, Q, gq, O6.out, Q6.out, M6.out, hI2.out, B6.out, X6.out, by omega, hqi2.out⟩
        case measure => simp [lenV]
    | false =>
    have hnew := hid (show ∀ y ∈ O, y.1 ≠ x0 from fun y hy e => by
      have := hcc.out
      rw [List.any_eq_false] at this
      exact this _ (List.mem_map.2 ⟨y, hy, rfl⟩) (by simp only [kP]; exact decide_eq_true e.symm))
    have hkm := hid (show O.length < maxLen by unfold maxLen; omega)
    clear hcc
    go_upto_region 9 with fail
    go_upto_region 10 with (at_mapUpdate; refine wpList_mapUpdate_own _ rfl _ _ _ 113 rfl 3 4 lawInt Tryd.underlying113 _ bm O.length _ rfl M6.out hkm.out _ _ _ rfl rfl HKE.out _ [] (plainElem_bool Tryd.underlying4 true) ?_; intro w7 hM7 hg7; have M7 := hid hM7; have G7 := hid hg7; clear hM7 hg7)
    have O7 := hid (show rwRK.Own w7 w.heap.size u8 O from own_kept O6.out (fun q cs hv hb => hb.grown G7.out (fun e => by injection e with e; exact map_ne_blk M6.out hb e.symm)))
    have Q7 := hid (Q6.out.grown G7.out (fun e => by injection e with e; obtain ⟨-, cs, hb⟩ := Q6.out.blk; exact map_ne_blk M6.out hb e.symm))
    have X7 := hid (X6.out.grown G7.out (fun e => by injection e with e; exact map_ne_blk M6.out X6.out e.symm))
    have Y7 := hid (Y6.out.grown G7.out (fun e => by injection e with e; exact map_ne_blk M6.out Y6.out e.symm))
    have B7 := hid (B6.out.grown G7.out B6.out.size (fun q e => by injection e with e; subst e; exact hmz.out))
    rw [← setI_snoc] at M7
    clear O6 Q6 M6 X6 Y6 B6 G7 hrun
    have y0 := Y7.out.cell 0; have y1 := Y7.out.cell 1; have y2 := Y7.out.cell 2; have yz := Y7.out.lt
    simp at y0 y1 y2
    have b8 := hid (show Below w7.heap.size w7 (w7.alloc (Obj.cells #[.int .i64 x0, .int .i64 x1, .int .i64 x2] 87)) by (repeat (first | exact Below.refl _ _ | assumption | refine below_drewN ?_ _ | refine Below.drew ?_ | refine Below.alloc ?_ (by (try simp); (try omega)) _ | refine Below.setCell ?_ (by (try simp); (try omega)) _)))
    have O8 := hid (show rwRK.Own (w7.alloc (Obj.cells #[.int .i64 x0, .int .i64 x1, .int .i64 x2] 87)) w.heap.size u8 O from O7.out.below b8.out)
    have S8 := hid (show SlR (w7.alloc (Obj.cells #[.int .i64 x0, .int .i64 x1, .int .i64 x2] 87)) (w7.alloc (Obj.cells #[.int .i64 x0, .int .i64 x1, .int .i64 x2] 87)).heap.size (some ⟨w7.heap.size, 0, none⟩) [(x0, x1, x2)] from rwRK.blk (show Blk _ w7.heap.size rwRK.e (rwRK.all [(x0, x1, x2)]).toArray from Blk.new w7 _ _) (by intro x hx; rw [List.mem_singleton.1 hx]; exact HXO.out))
    have B8 := hid (B7.out.trans (b8.out.mono B7.out.size))
    have hlen8 := hid (show O.length + [(x0, x1, x2)].length ≤ 100000000 by simp; omega)
    go_upto_region 11 with (at_builtin; refine rwRK.appL _ rfl (.tmp 41) (.tmp 43) rfl rfl O8.out (ys := [(x0, x1, x2)]) (c := 1) rfl S8.out hlen8.out B8.out.size ?_; intro A9 c9 w9 ho9 hg9; have O9 := hid ho9; have G9 := hid hg9; clear ho9 hg9)
    have Q9 := hid ((Q7.out.below b8.out).grown G9.out (fun e => by obtain ⟨-, cs, hb⟩ := (Q7.out.below b8.out).blk; exact own_blk_ne O8.out hb (by decide) e.symm))
    have M9 := hid ((M7.out.alloc (Obj.cells #[.int .i64 x0, .int .i64 x1, .int .i64 x2] 87)).kept G9.out (fun e => by obtain ⟨-, cs, hb⟩ := own_blk O8.out bm e.symm; exact map_ne_blk (M7.out.alloc (Obj.cells #[.int .i64 x0, .int .i64 x1, .int .i64 x2] 87)) hb rfl))
    have X9 := hid ((X7.out.below b8.out X7.out.lt).grown G9.out (fun e => own_blk_ne O8.out (X7.out.below b8.out X7.out.lt) (by decide) e.symm))
    have Y9 := hid ((Y7.out.below b8.out Y7.out.lt).grown G9.out (fun e => HOL.out _ e.symm rfl))
    have B9 := hid (B8.out.grown G9.out B8.out.size (fun q e => (own_blk O8.out q e).1))
    clear O8 S8 B8 G9 b8 O7 Q7 M7 X7 Y7 B7 y0 y1 y2 yz
    have y0 := Y9.out.cell 0; have y1 := Y9.out.cell 1; have y2 := Y9.out.cell 2; have yz := Y9.out.lt
    have x0' := X9.out.cell 0; have x1' := X9.out.cell 1; have xz := X9.out.lt
    simp at y0 y1 y2 x0' x1'
    have hO9 : (O ++ [(x0, x1, x2)]).length = O.length + 1 := by simp
    have HO9 := hid hO9
    clear hO9
    generalize w5.heap.size = yb at *
    have HC := hid (HMV.out x0 x1 w9 B9.out)
    have hOM := hid (show (O ++ [(x0, x1, x2)]).map kP = O.map kP ++ [x0] by simp [kP])
    have hO8v : lenV u8 = O.length := HLV.out
    clear HLV
    go_wp2_with fail
    refine HC.out.mono ?_
    rintro e wa ⟨hrr, hB⟩
    have Oa := hid (show rwRK.Own wa w.heap.size (.slice A9 (O.length + 1) c9) (O ++ [(x0, x1, x2)]) from O9.out.below hB)
    have Qa := hid (Q9.out.below hB)
    have Ma := hid (M9.out.kept (gr_below hB none) (by simp))
    have Xa := hid (X9.out.below hB X9.out.lt)
    have Ba := hid (B9.out.trans (hB.mono B9.out.size))
    clear HC O9 Q9 M9 X9 B9 Y9 y0 y1 y2 yz x0' x1' xz hkm hlen8 HOL HKE
    rcases hrr with ⟨m, Am2, cm2, hmv, rfl, hs, hml⟩ | ⟨hmv, rfl⟩
    case inr =>
      have hI2 := hid (show NInv g rows pos (O ++ [(x0, x1, x2)]) Q by
        have := HI.out.add HX.out hnew.out (ys := []) (fun t => ⟨fun hh => (by obtain ⟨m, h1, h2⟩ := hh; simp only at h1; rw [hmv] at h1; cases h1), fun h => (by cases h)⟩)
        rwa [List.append_nil] at this)
      have hsub := hI2.out.sub
      rw [HO9.out] at hsub
      have b6 := hid (show Below wa.heap.size wa (wa.alloc (Obj.cells #[.int .i64 0, .slice none 0 0] 105)) by (repeat (first | exact Below.refl _ _ | assumption | refine below_drewN ?_ _ | refine Below.drew ?_ | refine Below.alloc ?_ (by (try simp); (try omega)) _ | refine Below.setCell ?_ (by (try simp); (try omega)) _)))
      have Ob := hid (show rwRK.Own _ w.heap.size (.slice A9 (O.length + 1) c9) (O ++ [(x0, x1, x2)]) from Oa.out.below b6.out)
      have Qb := hid (Qa.out.below b6.out)
      have Mb := hid (Ma.out.alloc (Obj.cells #[.int .i64 0, .slice none 0 0] 105))
      have Xb := hid (Xa.out.below b6.out Xa.out.lt)
      have Bb := hid (Ba.out.trans (b6.out.mono Ba.out.size))
      clear hmv HI Oa Qa Ma Xa Ba b6 hB
      as_aux_lemma =>
        go_wp2_with fail
        go_roundw
        case rel => exact ⟨O ++ [(x0, x1, x2)], Q, gq, Ob.out, Qb.out, by rw [HO9.out, hOM.out]; exact Mb.out, hI2.out, Bb.out, Xb.out, by rw [HO9.out]; omega, hqi2.out⟩
        case measure => rw [hO8v]; simp only [lenV]; omega
    obtain ⟨hne, hrg⟩ := HNE.out _ _ (tMove_mem hmv).2.1
    have hmle := HML.out _ _ _ hmv
    have hgl := hid (show g.1.length ≤ 1000 from HGL.out)
    obtain ⟨m0, m1⟩ := m
    simp only at hs hml hne hrg hmle
    have hnl := hid (List.length_pos_iff.2 hne)
    have hI2 := hid (show NInv g rows pos (O ++ [(x0, x1, x2)]) (Q ++ m1) from HI.out.add HX.out hnew.out (ys := m1) (fun t => ⟨fun hh => (by obtain ⟨m, h1, h2⟩ := hh; simp only at h1; rw [hmv] at h1; injection h1 with h1; subst h1; exact h2), fun h => ⟨_, hmv, h⟩⟩))
    have hsub := hI2.out.sub
    rw [HO9.out] at hsub
    have hqi3 := hid (show ∀ t ∈ Q ++ m1, I64 t from fun t ht => by
      rcases List.mem_append.1 ht with ht | ht
      · exact hqi2.out t ht
      · have := hrg t ht; have := hgl.out; unfold I64; omega)
    have b6 := hid (show Below wa.heap.size wa (wa.alloc (Obj.cells #[.int .i64 m0, .slice Am2 m1.length cm2] 105)) by (repeat (first | exact Below.refl _ _ | assumption | refine below_drewN ?_ _ | refine Below.drew ?_ | refine Below.alloc ?_ (by (try simp); (try omega)) _ | refine Below.setCell ?_ (by (try simp); (try omega)) _)))
    have Ob := hid (show rwRK.Own (wa.alloc (Obj.cells #[.int .i64 m0, .slice Am2 m1.length cm2] 105)) w.heap.size (.slice A9 (O.length + 1) c9) (O ++ [(x0, x1, x2)]) from Oa.out.below b6.out)
    have Qb := hid (Qa.out.below b6.out)
    have Mb := hid (Ma.out.alloc (Obj.cells #[.int .i64 m0, .slice Am2 m1.length cm2] 105))
    have Xb := hid (Xa.out.below b6.out Xa.out.lt)
    have Bb := hid (Ba.out.trans (b6.out.mono Ba.out.size))
    have Sb := hid ((((hs.below hB).more hB.size).below b6.out).more b6.out.size)
    have hlq := hid (show Q.length + m1.length ≤ 10000000 by omega)
    have hlap : (Q ++ m1).length = Q.length + m1.length := List.length_append
    have HLA := hid hlap
    clear hmv HI Oa Qa Ma Xa Ba b6 hB hs hml hrg hlap
    go_wp2_with (at_builtin; refine wp_appQ _ rfl (.tmp 54) (.tmp 56) rfl w.heap.size gq _ Q rfl Qb.out _ cm2 Am2 m1 rfl Sb.out hnl.out hlq.out Bb.out.size ?_; intro gq2 Aq2 cq2 wb hq2 hg2; have Q2 := hid hq2; have G2 := hid hg2; clear hq2 hg2)
    have O2 := hid (show rwRK.Own wb w.heap.size (.slice A9 (O.length + 1) c9) (O ++ [(x0, x1, x2)]) from own_kept Ob.out (fun q cs hv hb => hb.grown G2.out (fun e => by obtain ⟨-, cs2, hb2⟩ := Qb.out.blk; injection e with e; exact Blk.ne_ hb hb2 (by decide) e)))
    have M2 := hid (Mb.out.kept G2.out (fun e => by obtain ⟨-, cs2, hb2⟩ := Qb.out.blk; injection e with e; exact map_ne_blk Mb.out hb2 e))
    have X2 := hid (Xb.out.grown G2.out (fun e => by obtain ⟨-, cs2, hb2⟩ := Qb.out.blk; injection e with e; exact Blk.ne_ Xb.out hb2 (by decide) e))
    have B2 := hid (Bb.out.grown G2.out Bb.out.size (fun q e => by injection e with e; subst e; exact Qb.out.blk.1))
    rw [HLA.out] at Q2
    clear Ob Qb Mb Xb Bb Sb G2
    as_aux_lemma =>
      go_roundw
      case rel => exact ⟨O ++ [(x0, x1, x2)], Q ++ m1, gq2, O2.out, Q2.out, by rw [HO9.out, hOM.out]; exact M2.out, hI2.out, B2.out, X2.out, by rw [HO9.out, HLA.out]; omega, hqi3.out⟩
      case measure => rw [hO8v]; simp only [lenV]; omega
end Go.Proofs.YtfpehakllnkaeaaDoor
namespace Go.Proofs.YtfpehakllnkaeaaDoor
open Go.RowKit Go.IntWalk

theorem flat_at {s : Nat} : ∀ (css : List (List Value)) (k : Nat) (hk : k < css.length) (j : Nat), (∀ c ∈ css, c.length = s) → j < s → css.flatten[k * s + j]? = css[k][j]?
  | c :: css, 0, _, j, h, hj => by
    have := h c (List.mem_cons_self ..)
    rw [List.flatten_cons, Nat.zero_mul, Nat.zero_add, List.getElem?_append_left (by omega)]
    rfl
  | c :: css, k + 1, hk, j, h, hj => by
    have h0 := h c (List.mem_cons_self ..)
    have := flat_at css k (by simpa using hk) j (fun x hx => h x (List.mem_cons_of_mem _ hx)) hj
    rw [List.flatten_cons, List.getElem?_append_right (by rw [h0, Nat.succ_mul]; omega), h0, show (k + 1) * s + j - s = k * s + j by rw [Nat.succ_mul]; omega, this]
    rfl
theorem slr_flat {T : Type} [Rep T] {w : World} {g : Nat} {t : TypeId} {l : List T} (css : List (List Value)) (hb : Blk w g t css.flatten.toArray) (hlen : css.length = l.length) (hsz : ∀ c ∈ css, c.length = Rep.size T) (hrep : ∀ k (hk : k < l.length), Rep.rep w w.heap.size (css[k]'(by omega)) l[k]) : SlR w w.heap.size (some ⟨g, 0, none⟩) l := by
  intro k x hx
  obtain ⟨hk, rfl⟩ := List.getElem?_eq_some_iff.1 hx
  have hc := hsz _ (List.getElem_mem (show k < css.length by omega))
  refine ⟨g, 0, css[k]'(by omega), rfl, hb.lt, hc, fun j u hu => ?_, hrep k hk⟩
  have hj : j < Rep.size T := by rw [← hc]; exact (List.getElem?_eq_some_iff.1 hu).1
  rw [hb.cell, Nat.zero_add, List.getElem?_toArray, flat_at css k (by omega) j hsz hj, hu]
end Go.Proofs.YtfpehakllnkaeaaDoor
namespace Go.Proofs.YtfpehakllnkaeaaDoor
open Go.RowKit Go.IntWalk Go.Shelf

theorem zero_or (k : Nat) : k = 0 ∨ ∃ j, k = j + 1 := by cases k with | zero => exact .inl rfl | succ j => exact .inr ⟨j, rfl⟩
end Go.Proofs.YtfpehakllnkaeaaDoor
namespace Go.Proofs.YtfpehakllnkaeaaDoor
open Go.RowKit Go.IntWalk

theorem dropI_step (l : List Int) (k : Nat) (h : k < l.length) : l.drop k = l[k] :: l.drop (k+1) := List.drop_eq_getElem_cons h
set_option maxRecDepth 100000 in
set_option maxHeartbeats 1000000 in
theorem sameI_any (A1 A2 : Option Addr) (c1 c2 : Nat) (l1 l2 : List Int) (w : World) (hl1 : l1.length ≤ maxLen) (hl2 : l2.length ≤ maxLen) (hs1 : SlR w w.heap.size A1 l1) (hs2 : SlR w w.heap.size A2 l2) :
    Calls Tryd.prog 39 #[.slice A1 l1.length c1, .slice A2 l2.length c2] w fun e w' => e = .returned (.bool (decide (l1 = l2))) ∧ Below w.heap.size w w' := by
  unfold maxLen at hl1 hl2
  by_cases hn : l1.length = l2.length
  · have Hn := hid hn
    have e2 : ((l1.length : Int) != (l2.length : Int)) = false := by simp [hn]
    go_enter Tryd.func39, Tryd.ntmps39
    clear hn
    go_wp2_with fail
    clear e2
    have R0 : Hid (decide (l1 = l2) = decide (l1.drop 0 = l2.drop 0)) := by simp [Hid]
    go_loopw [5] (fun i wr => ∃ k nq : Nat, k ≤ l1.length ∧ i = .int .i64 k ∧ Hid (decide (l1 = l2) = decide (l1.drop k = l2.drop k)) ∧ wr = World.drewN w nq) (fun i _ => l1.length - (intOf i).toNat)
    case atStart => exact ⟨0, 0, Nat.zero_le _, rfl, R0, rfl⟩
    case round =>
      clear R0
      obtain ⟨k, nq, hk, rfl, hr, rfl⟩ := hrel
      by_cases hlt : k < l1.length
      · have hlt2 : k < l2.length := by have := Hn.out; omega
        obtain ⟨b1, o1, rfl, hb1, g1, _⟩ := hs1.int hlt
        obtain ⟨b2, o2, rfl, hb2, g2, _⟩ := hs2.int hlt2
        have d1 := dropI_step l1 k hlt
        have d2 := dropI_step l2 k hlt2
        have i1 : (k:Int) < l1.length := by omega
        have i2 : (k:Int) < l2.length := by omega
        generalize l1[k] = x at *
        generalize l2[k] = y at *
        by_cases hxy : x = y
        · have e1 : (x != y) = false := by simp [hxy]
          have hr2 := hid (show decide (l1 = l2) = decide (l1.drop (k+1) = l2.drop (k+1)) from hr.out.trans (by rw [d1, d2]; simp [hxy]))
          clear d1 d2 hr hxy
          go_wp2_with fail
          go_quiet (fail)
          go_wp2
          go_roundw
          case rel => exact ⟨k+1, _, by omega, by go_num, hr2.out, rfl⟩
          case measure => simp [intOf]; omega
        · have e1 : (x != y) = true := by simp [hxy]
          have hr2 := hid (show decide (l1 = l2) = false from hr.out.trans (by rw [d1, d2]; simp [hxy]))
          clear d1 d2 hr hxy
          go_wp2_with fail
          go_quiet (fail)
          go_wp2
          go_ret
          exact ⟨ret_bool hr2.out.symm, by (repeat (first | exact Below.refl _ _ | assumption | refine below_drewN ?_ _ | refine Below.drew ?_ | refine Below.alloc ?_ (by (try simp); (try omega)) _ | refine Below.setCell ?_ (by (try simp); (try omega)) _))⟩
      · have he : Hid (decide (l1 = l2) = true) := by
          have := Hn.out
          have := hr.out
          rw [List.drop_eq_nil_of_le (by omega), List.drop_eq_nil_of_le (by omega)] at this
          simpa [Hid] using this
        clear hr
        go_wp2
        go_ret
        exact ⟨ret_bool he.out.symm, by (repeat (first | exact Below.refl _ _ | assumption | refine below_drewN ?_ _ | refine Below.drew ?_ | refine Below.alloc ?_ (by (try simp); (try omega)) _ | refine Below.setCell ?_ (by (try simp); (try omega)) _))⟩
  · have e2 : ((l1.length : Int) != (l2.length : Int)) = true := by simp; omega
    have hr := hid (show decide (l1 = l2) = false by simp; intro h; exact hn (by rw [h]))
    clear hn
    go_enter Tryd.func39, Tryd.ntmps39
    go_wp2
    go_ret
    exact ⟨ret_bool hr.out.symm, Below.refl _ _⟩

end Go.Proofs.YtfpehakllnkaeaaDoor
namespace Go.Proofs.YtfpehakllnkaeaaDoor
open Go.RowKit Go.IntWalk Go.Shelf

set_option maxRecDepth 100000 in
set_option maxHeartbeats 1000000 in
theorem samerows_any (A B : Option Addr) (c d : Nat) (l m : List Row) (w : World) (hl : l.length ≤ maxLen) (hm : m.length ≤ maxLen) (h1 : SlR w w.heap.size A l) (h2 : SlR w w.heap.size B m) :
    Calls Tryd.prog 14 #[.slice A l.length c, .slice B m.length d] w fun e w' => e = .returned (.bool (decide (l = m))) ∧ Below w.heap.size w w' := by
  unfold maxLen at hl hm
  by_cases hne : l.length = m.length
  case neg =>
    have hne' : ¬ (l.length : Int) = m.length := by omega
    have hr := hid (show decide (l = m) = false by have : l ≠ m := (fun e => hne (by rw [e])); simp [this])
    clear hne
    go_enter Tryd.func14, Tryd.ntmps14
    go_wp2_with fail
    go_ret
    exact ⟨ret_bool hr.out.symm, Below.refl _ _⟩
  have HN := hid hne
  have hne' : (l.length : Int) = m.length := by omega
  clear hne
  go_enter Tryd.func14, Tryd.ntmps14
  go_wp2_with fail
  go_loopw [5] (fun i wr => ∃ k : Nat, k ≤ m.length ∧ i = .int .i64 k ∧ Below w.heap.size w wr ∧ l.take k = m.take k) (fun i _ => m.length - (intOf i).toNat)
  case atStart => exact ⟨0, by omega, rfl, Below.refl _ _, by simp⟩
  case round =>
    obtain ⟨k, hk, rfl, hB, ht⟩ := hrel
    have HB := hid hB
    have HT := hid ht
    by_cases hlt : k < m.length
    · have hlt' : (k : Int) < m.length := by omega
      have hkl : k < l.length := by have := HN.out; omega
      obtain ⟨b1, o1, rfl, hb1, c1, c2, c3, _⟩ := h1.row hkl
      obtain ⟨b2, o2, rfl, hb2, d1, d2, d3, _⟩ := h2.row hlt
      replace c1 := (bcell hB b1 _ hb1).trans c1
      replace c2 := (bcell hB b1 _ hb1).trans c2
      replace c3 := (bcell hB b1 _ hb1).trans c3
      replace d1 := (bcell hB b2 _ hb2).trans d1
      replace d2 := (bcell hB b2 _ hb2).trans d2
      replace d3 := (bcell hB b2 _ hb2).trans d3
      have z1 : b1 < wr.heap.size := by have := hB.size; omega
      have z2 : b2 < wr.heap.size := by have := hB.size; omega
      have HE := hid (fun (e : l[k] = m[k]) => take_snoc_eq hkl hlt ht e)
      have HNE := hid (fun (e : l[k] ≠ m[k]) => show decide (l = m) = false from by simp [take_snoc_ne hkl hlt e])
      clear hB ht
      generalize l[k] = x at *
      generalize m[k] = y at *
      obtain ⟨x0, x1, x2⟩ := x
      obtain ⟨y0, y1, y2⟩ := y
      simp only at c1 c2 c3 d1 d2 d3
      by_cases e0 : x0 = y0
      · by_cases e1 : x1 = y1
        · by_cases e2 : x2 = y2
          · subst e0 e1 e2
            have HT2 := hid (HE.out rfl)
            clear HE HNE
            as_aux_lemma =>
              go_wp2_with fail
              go_quiet (fail)
              go_wp2_with fail
              go_roundw
              case rel => exact ⟨k + 1, by omega, by go_num, below_drewN HB.out _, HT2.out⟩
              case measure => simp [intOf]; omega
          · have hf := hid (HNE.out (by simp [e2]))
            subst e0 e1
            clear HE HNE
            as_aux_lemma =>
              go_wp2_with fail
              go_quiet (fail)
              go_wp2_with fail
              go_ret
              exact ⟨ret_bool hf.out.symm, below_drewN HB.out _⟩
        · have hf := hid (HNE.out (by simp [e1]))
          subst e0
          clear HE HNE
          as_aux_lemma =>
            go_wp2_with fail
            go_quiet (fail)
            go_wp2_with fail
            go_ret
            exact ⟨ret_bool hf.out.symm, below_drewN HB.out _⟩
      · have hf := hid (HNE.out (by simp [e0]))
        clear HE HNE
        as_aux_lemma =>
          go_wp2_with fail
          go_quiet (fail)
          go_wp2_with fail
          go_ret
          exact ⟨ret_bool hf.out.symm, below_drewN HB.out _⟩
    · obtain rfl : k = m.length := by omega
      have hr := hid (show decide (l = m) = true by
        have h5 := HN.out
        have h6 := ht
        rw [List.take_length, ← h5, List.take_length] at h6
        simp [h6])
      clear hB ht
      go_wp2_with fail
      go_ret
      exact ⟨ret_bool hr.out.symm, HB.out⟩
end Go.Proofs.YtfpehakllnkaeaaDoor
namespace Go.Proofs.YtfpehakllnkaeaaDoor
open Go.RowKit Go.IntWalk

theorem ok_of {g : Gm} {n : Int} (hf : fewL g n = true) (hr : rightL g = true) (hn : n ≤ 1000) : GmOK g := by
  simp only [fewL, Bool.and_eq_true, decide_eq_true_eq, List.all_eq_true] at hf
  simp only [rightL, Bool.and_eq_true, decide_eq_true_eq, List.all_eq_true] at hr
  obtain ⟨⟨hf1, hf2⟩, hf3⟩ := hf
  obtain ⟨⟨hr1, hr2⟩, hr3⟩ := hr
  refine ⟨hr1, by omega, fun l hl => ?_, fun l hl m hm => ?_⟩
  · have := (hf1 l hl).1
    omega
  · have h1 := hf1 l hl
    have h2 := h1.2 m hm
    obtain ⟨_, h3, h4⟩ := mvsOK_mem (hr3 l hl) m hm
    refine ⟨by omega, asc_nodup h4, h3, fun t ht => ?_⟩
    have := asc_mem h4 t ht
    omega
end Go.Proofs.YtfpehakllnkaeaaDoor
namespace Go.Proofs.YtfpehakllnkaeaaDoor
open Go.RowKit Go.IntWalk Go.Shelf

def exG : Gm := ([false, false, true], [[(5, [1, 2])], [(4, [2])], []])
theorem i64s (n : Int) (h : -100 ≤ n ∧ n ≤ 100) : I64 n := ⟨by omega, by omega⟩
theorem flat_ints : ∀ l : List Int, (l.map (fun x => [Value.int .i64 x])).flatten = l.map (Value.int .i64)
  | [] => rfl
  | a :: l => by rw [List.map_cons, List.flatten_cons, flat_ints l]; rfl
theorem slr_ints {w : World} {g : Nat} {l : List Int} (hb : Blk w g 3 (l.map (Value.int .i64)).toArray) (hi : ∀ x ∈ l, I64 x) : SlR w w.heap.size (some ⟨g, 0, none⟩) l := by
  refine slr_flat (t := 3) (l.map (fun x => [Value.int .i64 x])) (by rw [flat_ints]; exact hb) (by simp) (fun c hc => by obtain ⟨x, _, rfl⟩ := List.mem_map.1 hc; rfl) (fun k hk => ?_)
  rw [List.getElem_map]; exact ⟨rfl, hi _ (List.getElem_mem hk)⟩
theorem slr_mv1 {w : World} {g : Nat} {a : Int} {A : Option Addr} {c : Nat} {tos : List Int} (hb : Blk w g 105 #[.int .i64 a, .slice A tos.length c]) (ha : I64 a) (h1 : tos.length ≤ c) (h2 : c ≤ maxLen) (hs : SlR w w.heap.size A tos) : SlR w w.heap.size (some ⟨g, 0, none⟩) [((a, tos) : Mv)] := by
  refine slr_flat [[.int .i64 a, .slice A tos.length c]] hb rfl (fun c hc => by rw [List.mem_singleton.1 hc]; rfl) (fun k hk => ?_)
  have : k = 0 := by simpa using hk
  subst this
  exact ⟨[.int .i64 a], [.slice A tos.length c], rfl, rfl, rfl, ⟨rfl, ha⟩, A, c, rfl, h1, h2, hs⟩
set_option maxRecDepth 100000 in
set_option maxHeartbeats 1000000 in
theorem example_any (w : World) : Calls Tryd.prog 37 #[] w fun e w' => ∃ Ag Am, e = .returned (.agg #[.slice Ag 3 3, .slice Am 3 3]) ∧ GmR w' w'.heap.size Ag Am exG ∧ Below w.heap.size w w' := by
  obtain ⟨w7, hw7⟩ : ∃ w7, w7 = (((((((w.alloc (Obj.cells #[.slice (some ⟨w.heap.size + 1, 0, none⟩) 3 3, .slice (some ⟨w.heap.size + 1 + 1 + 1 + 1 + 1 + 1, 0, none⟩) 3 3] 84)).alloc (Obj.cells #[.bool false, .bool false, .bool true] 4)).alloc (Obj.cells #[.int .i64 1, .int .i64 2] 3)).alloc
    (Obj.cells #[.int .i64 5, .slice (some ⟨w.heap.size + 1 + 1, 0, none⟩) 2 2] 105)).alloc (Obj.cells #[.int .i64 2] 3)).alloc (Obj.cells #[.int .i64 4, .slice (some ⟨w.heap.size + 1 + 1 + 1 + 1, 0, none⟩) 1 1] 105)).alloc
    (Obj.cells #[.slice (some ⟨w.heap.size + 1 + 1 + 1, 0, none⟩) 1 1, .slice (some ⟨w.heap.size + 1 + 1 + 1 + 1 + 1, 0, none⟩) 1 1, .slice none 0 0] 106)) := ⟨_, rfl⟩
  have B7 := hid (show Below w.heap.size w w7 by rw [hw7]; (repeat (first | exact Below.refl _ _ | assumption | refine below_drewN ?_ _ | refine Below.drew ?_ | refine Below.alloc ?_ (by (try simp); (try omega)) _ | refine Below.setCell ?_ (by (try simp); (try omega)) _)))
  have X0 := hid (show Blk w7 w.heap.size 84 #[.slice (some ⟨w.heap.size + 1, 0, none⟩) 3 3, .slice (some ⟨w.heap.size + 1 + 1 + 1 + 1 + 1 + 1, 0, none⟩) 3 3] by rw [hw7]; exact ((((((Blk.new w _ _).alloc _).alloc _).alloc _).alloc _).alloc _).alloc _)
  have X1 := show Blk w7 (w.heap.size + 1) 4 #[.bool false, .bool false, .bool true] by rw [hw7]; exact (((((Blk.new_at (by simp)).alloc _).alloc _).alloc _).alloc _).alloc _
  have X2 := show Blk w7 (w.heap.size + 1 + 1) 3 #[.int .i64 1, .int .i64 2] by rw [hw7]; exact ((((Blk.new_at (by simp)).alloc _).alloc _).alloc _).alloc _
  have X3 := show Blk w7 (w.heap.size + 1 + 1 + 1) 105 #[.int .i64 5, .slice (some ⟨w.heap.size + 1 + 1, 0, none⟩) 2 2] by rw [hw7]; exact (((Blk.new_at (by simp)).alloc _).alloc _).alloc _
  have X4 := show Blk w7 (w.heap.size + 1 + 1 + 1 + 1) 3 #[.int .i64 2] by rw [hw7]; exact ((Blk.new_at (by simp)).alloc _).alloc _
  have X5 := show Blk w7 (w.heap.size + 1 + 1 + 1 + 1 + 1) 105 #[.int .i64 4, .slice (some ⟨w.heap.size + 1 + 1 + 1 + 1, 0, none⟩) 1 1] by rw [hw7]; exact (Blk.new_at (by simp)).alloc _
  have X6 := show Blk w7 (w.heap.size + 1 + 1 + 1 + 1 + 1 + 1) 106 #[.slice (some ⟨w.heap.size + 1 + 1 + 1, 0, none⟩) 1 1, .slice (some ⟨w.heap.size + 1 + 1 + 1 + 1 + 1, 0, none⟩) 1 1, .slice none 0 0] by rw [hw7]; exact Blk.new_at (by simp)
  have hm : (3 : Nat) ≤ maxLen ∧ (2 : Nat) ≤ maxLen ∧ (1 : Nat) ≤ maxLen ∧ (0 : Nat) ≤ maxLen := by unfold maxLen; omega
  have s1 : SlR w7 w7.heap.size (some ⟨w.heap.size + 1, 0, none⟩) [false, false, true] := slr_flat [[.bool false], [.bool false], [.bool true]] X1 rfl (fun c hc => by simp at hc; rcases hc with rfl | rfl <;> rfl) (fun k hk => by
    match k, hk with
    | 0, _ => rfl
    | 1, _ => rfl
    | 2, _ => rfl)
  have s2 : SlR w7 w7.heap.size (some ⟨w.heap.size + 1 + 1, 0, none⟩) ([1, 2] : List Int) := slr_ints X2 (fun x hx => by simp at hx; rcases hx with rfl | rfl <;> exact i64s _ (by omega))
  have s4 : SlR w7 w7.heap.size (some ⟨w.heap.size + 1 + 1 + 1 + 1, 0, none⟩) ([2] : List Int) := slr_ints X4 (fun x hx => by simp at hx; rw [hx]; exact i64s _ (by omega))
  have s3 := slr_mv1 (tos := [1, 2]) X3 (i64s 5 (by omega)) (Nat.le_refl _) hm.2.1 s2
  have s5 := slr_mv1 (tos := [2]) X5 (i64s 4 (by omega)) (Nat.le_refl _) hm.2.2.1 s4
  have s6 : SlR w7 w7.heap.size (some ⟨w.heap.size + 1 + 1 + 1 + 1 + 1 + 1, 0, none⟩) exG.2 := slr_flat [[.slice (some ⟨w.heap.size + 1 + 1 + 1, 0, none⟩) 1 1], [.slice (some ⟨w.heap.size + 1 + 1 + 1 + 1 + 1, 0, none⟩) 1 1], [.slice none 0 0]] X6 rfl (fun c hc => by simp at hc; rcases hc with rfl | rfl | rfl <;> rfl) (fun k hk => by
    match k, hk with
    | 0, _ => exact ⟨_, 1, rfl, Nat.le_refl _, hm.2.2.1, s3⟩
    | 1, _ => exact ⟨_, 1, rfl, Nat.le_refl _, hm.2.2.1, s5⟩
    | 2, _ => exact ⟨_, 0, rfl, Nat.le_refl _, hm.2.2.2, SlR.nil⟩)
  have HG := hid (show GmR w7 w7.heap.size (some ⟨w.heap.size + 1, 0, none⟩) (some ⟨w.heap.size + 1 + 1 + 1 + 1 + 1 + 1, 0, none⟩) exG from ⟨s1, s6, hm.1, hm.1⟩)
  clear X1 X2 X3 X4 X5 X6 s1 s2 s3 s4 s5 s6 hm
  go_enter Tryd.func37, Tryd.ntmps37
  go_wp2_with fail
  rw [← hw7]
  clear hw7
  refine bodyPost_ret (results_cell_row Tryd.results37 _ _ w.heap.size 84 _ (0, 0) _ rfl X0.out Tryd.underlying84 rfl (by kernel_rfl)) rfl ?_
  exact ⟨_, _, rfl, HG.out, B7.out⟩
theorem exG_right : rightL exG = true := by decide
theorem exG_ok : GmOK exG := by
  refine ⟨rfl, by decide, ?_, ?_⟩
  · intro l hl; simp [exG] at hl; rcases hl with rfl | rfl | rfl <;> simp
  · intro l hl m hm
    simp [exG] at hl
    rcases hl with rfl | rfl | rfl
    · simp at hm; subst hm; simp [exG]
    · simp at hm; subst hm; simp [exG]
    · simp at hm
/-! ### The example's tables -/
def exOne : List Row := [(0, 5, 2), (1, 4, 1), (2, -1, 0)]
def exTwo : List Row := [(0, 5, 1), (1, 4, 1), (2, -1, 0)]
def exThree : List Row := [(0, 5, 2), (2, -1, 0)]
theorem exOne_asc : Asc kP exOne := by simp [Asc, exOne, kP]
theorem exTwo_asc : Asc kP exTwo := by simp [Asc, exTwo, kP]
theorem exThree_asc : Asc kP exThree := by simp [Asc, exThree, kP]
theorem exOne_chk {k c : Int} (h : ChkR exG exOne k c) : k = -1 ∧ c = 0 := h.all exOne_asc (by decide)
theorem exTwo_chk {k c : Int} (h : ChkR exG exTwo k c) : k = 0 ∧ c = 25 := by
  have := h.bad exTwo_asc (i := 0) (by decide) (by decide)
  omega
theorem exThree_chk {k c : Int} (h : ChkR exG exThree k c) : k = 0 ∧ c = 25 := by
  have := h.bad exThree_asc (i := 0) (by decide) (by decide)
  omega
theorem exOne_fol : folL exG exOne 0 [0, 7] = [0, 1, 2] := by decide
/-- Two ascending lists with the same elements. -/
theorem asc_ext {T : Type} {key : T → Int} : ∀ {a b : List T}, Asc key a → Asc key b → (∀ x, x ∈ a ↔ x ∈ b) → a = b
  | [], [], _, _, _ => rfl
  | [], y :: b, _, _, h => absurd ((h y).2 (List.mem_cons_self ..)) (by simp)
  | x :: a, [], _, _, h => absurd ((h x).1 (List.mem_cons_self ..)) (by simp)
  | x :: a, y :: b, ha, hb, h => by
    obtain ⟨ha1, ha2⟩ := List.pairwise_cons.1 ha
    obtain ⟨hb1, hb2⟩ := List.pairwise_cons.1 hb
    have e : x = y := by
      rcases List.mem_cons.1 ((h x).1 (List.mem_cons_self ..)) with e | hx
      · exact e
      · rcases List.mem_cons.1 ((h y).2 (List.mem_cons_self ..)) with e | hy
        · exact e.symm
        · have := hb1 x hx; have := ha1 y hy; omega
    subst e
    congr 1
    refine asc_ext ha2 hb2 fun z => ⟨fun hz => ?_, fun hz => ?_⟩
    · rcases List.mem_cons.1 ((h z).1 (List.mem_cons_of_mem _ hz)) with rfl | hz2
      · have := ha1 z hz; omega
      · exact hz2
    · rcases List.mem_cons.1 ((h z).2 (List.mem_cons_of_mem _ hz)) with rfl | hz2
      · have := hb1 z hz; omega
      · exact hz2
theorem ex_lead {x : Row} (h : x ∈ exOne) {t : Int} (hl : leads exG x t) : (x = (0, 5, 2) ∧ (t = 1 ∨ t = 2)) ∨ (x = (1, 4, 1) ∧ t = 2) := by
  obtain ⟨m, hm, ht⟩ := hl
  simp only [exOne, List.mem_cons, List.not_mem_nil, or_false] at h
  rcases h with rfl | rfl | rfl
  · have e : tMove exG 0 5 = some (5, [1, 2]) := by decide
    simp only at hm
    rw [e] at hm
    injection hm with hm
    subst hm
    simp at ht
    exact .inl ⟨rfl, ht⟩
  · have e : tMove exG 1 4 = some (4, [2]) := by decide
    simp only at hm
    rw [e] at hm
    injection hm with hm
    subst hm
    simp at ht
    exact .inr ⟨rfl, ht⟩
  · have e : tMove exG 2 (-1) = none := by decide
    simp only at hm
    rw [e] at hm
    cases hm
theorem exOne_needs {l : List Row} (h : NdR exG exOne 1 l) : l = [(1, 4, 1), (2, -1, 0)] := by
  have hin : ∀ x ∈ l, x ∈ exOne := fun x hx => (look_mem (h.mem x hx)).1
  have h1 : ((1 : Int), (4 : Int), (1 : Int)) ∈ l := by
    rcases h.st with h1 | ⟨y, hy, e⟩
    · exact absurd h1 (by decide)
    · have := hin y hy
      simp only [exOne, List.mem_cons, List.not_mem_nil, or_false] at this
      rcases this with rfl | rfl | rfl
      · cases e
      · exact hy
      · cases e
  have h2 : ((2 : Int), (-1 : Int), (0 : Int)) ∈ l := by
    rcases h.cl _ h1 2 ⟨(4, [2]), by decide, by decide⟩ with h2 | ⟨y, hy, e⟩
    · exact absurd h2 (by decide)
    · have := hin y hy
      simp only [exOne, List.mem_cons, List.not_mem_nil, or_false] at this
      rcases this with rfl | rfl | rfl
      · cases e
      · cases e
      · exact hy
  have h0 : ((0 : Int), (5 : Int), (2 : Int)) ∉ l := by
    intro hx
    rcases h.re _ hx with e | ⟨y, hy, hl⟩
    · cases e
    · rcases ex_lead (hin y hy) hl with ⟨_, e | e⟩ | ⟨_, e⟩ <;> cases e
  refine asc_ext h.asc (by simp [Asc, kP]) fun x => ⟨fun hx => ?_, fun hx => ?_⟩
  · have := hin x hx
    simp only [exOne, List.mem_cons, List.not_mem_nil, or_false] at this
    rcases this with rfl | rfl | rfl
    · exact absurd hx h0
    · simp
    · simp
  · simp only [List.mem_cons, List.not_mem_nil, or_false] at hx
    rcases hx with rfl | rfl
    · exact h1
    · exact h2
/-! ### fair -/
def fairL (g : Gm) (rows : List Row) : Bool := fewL g 40 && rightL g && decide (rows.length ≤ 60)
theorem fair_parts {g : Gm} {rows : List Row} (h : fairL g rows = true) : rightL g = true ∧ GmOK g ∧ rows.length ≤ 60 := by
  simp only [fairL, Bool.and_eq_true, decide_eq_true_eq] at h
  exact ⟨h.1.2, ok_of h.1.1 h.1.2 (by omega), h.2⟩
end Go.Proofs.YtfpehakllnkaeaaDoor
namespace Go.Proofs.YtfpehakllnkaeaaDoor
open Go.RowKit Go.IntWalk Go.Shelf

theorem i012 : ∀ x ∈ ([0, 1, 2] : List Int), I64 x := fun x hx => by simp at hx; rcases hx with rfl | rfl | rfl <;> exact i64s _ (by omega)
theorem exN_ok : ∀ x ∈ ([(1, 4, 1), (2, -1, 0)] : List Row), rwRK.ok x := fun x hx => by
  simp at hx
  rcases hx with rfl | rfl <;> exact ⟨i64s _ (by simp), i64s _ (by simp), i64s _ (by simp)⟩
theorem ex_ok : ∀ x ∈ exOne ++ exTwo ++ exThree, rwRK.ok x := fun x hx => by
  simp only [exOne, exTwo, exThree, List.cons_append, List.nil_append, List.mem_cons, List.not_mem_nil, or_false] at hx
  rcases hx with rfl | rfl | rfl | rfl | rfl | rfl | rfl | rfl <;> exact ⟨i64s _ (by simp), i64s _ (by simp), i64s _ (by simp)⟩
theorem slr_tail1 {w : World} {b : Nat} {x : Row} {l : List Row} (h : SlR w w.heap.size (some ⟨b, 0, none⟩) (x :: l)) : SlR w w.heap.size (some ⟨b, 3, none⟩) l := by
  intro k y hy
  obtain ⟨b', off, es, hA, hb, hs, hc, hr⟩ := h (k + 1) y (by simpa using hy)
  injection hA with hA
  injection hA with e1 e2 _
  subst e1 e2
  refine ⟨b, 3, es, rfl, hb, hs, fun j u hu => ?_, hr⟩
  have h3 : Rep.size Row = 3 := rfl
  have := hc j u hu
  rw [h3] at this ⊢
  rwa [show 0 + (k + 1) * 3 + j = 3 + k * 3 + j by omega] at this
set_option maxRecDepth 100000 in
set_option maxHeartbeats 8000000 in
theorem tsmall_any (w : World) : Calls Tryd.prog 11 #[] w fun e w' => e = .returned (.bool true) ∧ Below w.heap.size w w' := by
  have HE := hid (example_any w)
  go_enter Tryd.func11, Tryd.ntmps11
  go_wp2_with fail
  refine HE.out.mono ?_
  rintro e w1 ⟨Ag, Am, rfl, hG, hB⟩
  have HG := hid hG; have B1 := hid hB
  clear hG hB HE
  obtain ⟨w2, hw2⟩ : ∃ w2, w2 = (((w1.alloc (Obj.cells #[.slice Ag 3 3, .slice Am 3 3] 84)).alloc (Obj.cells #[.int .i64 0, .int .i64 5, .int .i64 2, .int .i64 1, .int .i64 4, .int .i64 1, .int .i64 2, .int .i64 (-1), .int .i64 0] 87)).alloc (Obj.cells #[.int .i64 0, .int .i64 5, .int .i64 1, .int .i64 1, .int .i64 4, .int .i64 1, .int .i64 2, .int .i64 (-1), .int .i64 0] 87)).alloc (Obj.cells #[.int .i64 0, .int .i64 5, .int .i64 2, .int .i64 2, .int .i64 (-1), .int .i64 0] 87) := ⟨_, rfl⟩
  have b2 := hid (show Below w1.heap.size w1 w2 by rw [hw2]; (repeat (first | exact Below.refl _ _ | assumption | refine below_drewN ?_ _ | refine Below.drew ?_ | refine Below.alloc ?_ (by (try simp); (try omega)) _ | refine Below.setCell ?_ (by (try simp); (try omega)) _)))
  have X2 := hid (show Blk w2 w1.heap.size 84 #[.slice Ag 3 3, .slice Am 3 3] by rw [hw2]; exact (((Blk.new w1 _ _).alloc _).alloc _).alloc _)
  have Y1 := show Blk w2 (w1.heap.size + 1) 87 #[.int .i64 0, .int .i64 5, .int .i64 2, .int .i64 1, .int .i64 4, .int .i64 1, .int .i64 2, .int .i64 (-1), .int .i64 0] by rw [hw2]; exact ((Blk.new_at (by simp)).alloc _).alloc _
  have Y2 := show Blk w2 (w1.heap.size + 1 + 1) 87 #[.int .i64 0, .int .i64 5, .int .i64 1, .int .i64 1, .int .i64 4, .int .i64 1, .int .i64 2, .int .i64 (-1), .int .i64 0] by rw [hw2]; exact (Blk.new_at (by simp)).alloc _
  have Y3 := show Blk w2 (w1.heap.size + 1 + 1 + 1) 87 #[.int .i64 0, .int .i64 5, .int .i64 2, .int .i64 2, .int .i64 (-1), .int .i64 0] by rw [hw2]; exact Blk.new_at (by simp)
  have S1 := hid (rwRK.blk (l := exOne) Y1 (fun x hx => ex_ok x (by simp [hx])))
  have S2 := hid (rwRK.blk (l := exTwo) Y2 (fun x hx => ex_ok x (by simp [hx])))
  have S3 := hid (rwRK.blk (l := exThree) Y3 (fun x hx => ex_ok x (by simp [hx])))
  have S1t := hid (rwRK.blk (l := exOne) Y1 (fun x hx => ex_ok x (by simp [hx])))
  have B2 := hid (B1.out.trans (b2.out.mono B1.out.size))
  have HG2 := hid (HG.out.to b2.out)
  have HCK := hid (fun (W : World) (hW : Below w2.heap.size w2 W) (A : Option Addr) (c : Nat) (rows : List Row) (hl : rows.length ≤ 1000000) (hs : SlR w2 w2.heap.size A rows) => check_any Ag Am A 3 3 c exG rows W (HG2.out.to hW) exG_right exG_ok hl ((hs.below hW).more hW.size))
  have C1 := hid (show ∀ W, Below w2.heap.size w2 W → Calls Tryd.prog 38 #[.agg #[.slice Ag 3 3, .slice Am 3 3], .slice (some ⟨w1.heap.size + 1, 0, none⟩) 3 3] W fun e w' => e = .returned (.tuple #[.int .i64 (-1), .int .i64 0]) ∧ Below W.heap.size W w' from fun W hW => (HCK.out W hW _ 3 exOne (by decide) S1.out).mono fun e w' ⟨k, c, h1, h2, h3⟩ => by obtain ⟨rfl, rfl⟩ := exOne_chk h2; exact ⟨h1, h3⟩)
  have C2 := hid (show ∀ W, Below w2.heap.size w2 W → Calls Tryd.prog 38 #[.agg #[.slice Ag 3 3, .slice Am 3 3], .slice (some ⟨w1.heap.size + 1 + 1, 0, none⟩) 3 3] W fun e w' => e = .returned (.tuple #[.int .i64 0, .int .i64 25]) ∧ Below W.heap.size W w' from fun W hW => (HCK.out W hW _ 3 exTwo (by decide) S2.out).mono fun e w' ⟨k, c, h1, h2, h3⟩ => by obtain ⟨rfl, rfl⟩ := exTwo_chk h2; exact ⟨h1, h3⟩)
  have C3 := hid (show ∀ W, Below w2.heap.size w2 W → Calls Tryd.prog 38 #[.agg #[.slice Ag 3 3, .slice Am 3 3], .slice (some ⟨w1.heap.size + 1 + 1 + 1, 0, none⟩) 2 2] W fun e w' => e = .returned (.tuple #[.int .i64 0, .int .i64 25]) ∧ Below W.heap.size W w' from fun W hW => (HCK.out W hW _ 2 exThree (by decide) S3.out).mono fun e w' ⟨k, c, h1, h2, h3⟩ => by obtain ⟨rfl, rfl⟩ := exThree_chk h2; exact ⟨h1, h3⟩)
  clear Y1 Y2 Y3 S2 S3 HCK b2
  go_upto_region 5 with fail
  rw [← hw2]
  clear hw2
  have x0 := X2.out.cell 0; have x1 := X2.out.cell 1; have xz := X2.out.lt
  simp at x0 x1
  go_wp2_with fail
  refine (C1.out _ (Below.refl _ _)).mono ?_
  rintro e w3 ⟨rfl, hB⟩
  have B3 := hid hB
  have X3 := hid (X2.out.below hB X2.out.lt)
  clear hB C1 x0 x1 xz
  have x0 := X3.out.cell 0; have x1 := X3.out.cell 1; have xz := X3.out.lt
  simp at x0 x1
  go_wp2_with fail
  refine (C2.out _ B3.out).mono ?_
  rintro e w4 ⟨rfl, hB⟩
  have B4 := hid (B3.out.trans (hB.mono B3.out.size))
  have X4 := hid (X3.out.below hB X3.out.lt)
  clear hB C2 x0 x1 xz B3 X3
  have x0 := X4.out.cell 0; have x1 := X4.out.cell 1; have xz := X4.out.lt
  simp at x0 x1
  go_wp2_with fail
  refine (C3.out _ B4.out).mono ?_
  rintro e w7 ⟨rfl, hB⟩
  have B47 := hid (B4.out.trans (hB.mono B4.out.size))
  have X7 := hid (X4.out.below hB X4.out.lt)
  have B7 := hid (B2.out.trans (B47.out.mono B2.out.size))
  have HG7 := hid (HG2.out.to B47.out)
  have S7 := hid ((S1.out.below B47.out).more B47.out.size)
  have S7t := hid (show SlR w7 w7.heap.size (some ⟨w1.heap.size + 1, 3, none⟩) ([(1, 4, 1), (2, -1, 0)] : List Row) from slr_tail1 S7.out)
  clear hB C3 x0 x1 xz B4 X4 HG2 S1 S1t X2
  have x0 := X7.out.cell 0; have x1 := X7.out.cell 1; have xz := X7.out.lt
  simp at x0 x1
  have HFOL := hid (show ∀ W, Below w7.heap.size w7 W → ∀ gb, Blk W gb 3 #[.int .i64 0, .int .i64 7] → Calls Tryd.prog 40 #[.agg #[.slice Ag 3 3, .slice Am 3 3], .slice (some ⟨w1.heap.size + 1, 0, none⟩) 3 3, .int .i64 0, .slice (some ⟨gb, 0, none⟩) 2 2] W fun e w' => ∃ v, e = .returned v ∧ (OwnI w' W.heap.size v [0, 1, 2] ∧ Below W.heap.size W w') from fun W hW gb hb =>
    (follow_any Ag Am (some ⟨w1.heap.size + 1, 0, none⟩) (some ⟨gb, 0, none⟩) 3 3 3 2 exG exOne 0 [0, 7] W (HG7.out.to hW) exG_right exG_ok (by decide) exOne_asc ((S7.out.below hW).more hW.size) (by decide) (slr_ints hb (fun x hx => by simp at hx; rcases hx with rfl | rfl <;> exact i64s _ (by omega)))).mono fun e w' ⟨v, h1, h2, h3⟩ => ⟨v, h1, by rw [← exOne_fol]; exact h2, h3⟩)
  have HSAM := hid (show ∀ (W : World) (A : Option Addr) (c gb : Nat), SlR W W.heap.size A ([0, 1, 2] : List Int) → Blk W gb 3 #[.int .i64 0, .int .i64 1, .int .i64 2] → Calls Tryd.prog 39 #[.slice A 3 c, .slice (some ⟨gb, 0, none⟩) 3 3] W fun e w' => e = .returned (.bool true) ∧ Below W.heap.size W w' from fun W A c gb hs hb => sameI_any A (some ⟨gb, 0, none⟩) c 3 [0, 1, 2] [0, 1, 2] W (by decide) (by decide) hs (slr_ints hb i012))
  have HNDS := hid (show ∀ W, Below w7.heap.size w7 W → Calls Tryd.prog 41 #[.agg #[.slice Ag 3 3, .slice Am 3 3], .slice (some ⟨w1.heap.size + 1, 0, none⟩) 3 3, .int .i64 1] W fun e w' => ∃ v, e = .returned v ∧ (rwRK.Own w' W.heap.size v [(1, 4, 1), (2, -1, 0)] ∧ Below W.heap.size W w') from fun W hW =>
    (needs_any Ag Am (some ⟨w1.heap.size + 1, 0, none⟩) 3 3 3 exG exOne 1 W (HG7.out.to hW) exG_right exG_ok (by decide) exOne_asc ((S7.out.below hW).more hW.size) (i64s _ (by omega))).mono fun e w' ⟨v, l, h1, h2, h3, h4⟩ => ⟨v, h1, by rw [← exOne_needs h3]; exact h2, h4⟩)
  have HSRW := hid (show ∀ W, Below w7.heap.size w7 W → ∀ (A : Option Addr) (c : Nat), SlR W W.heap.size A ([(1, 4, 1), (2, -1, 0)] : List Row) → Calls Tryd.prog 14 #[.slice A 2 c, .slice (some ⟨w1.heap.size + 1, 3, none⟩) 2 2] W fun e w' => e = .returned (.bool true) ∧ Below W.heap.size W w' from fun W hW A c hs => samerows_any A (some ⟨w1.heap.size + 1, 3, none⟩) c 2 [(1, 4, 1), (2, -1, 0)] [(1, 4, 1), (2, -1, 0)] W (by decide) (by decide) hs ((S7t.out.below hW).more hW.size))
  have HSF := hid (fun (wq : World) (hq : Below w7.heap.size w7 wq) => And.intro ((bcell hq _ _ xz).trans x0) ((bcell hq _ _ xz).trans x1))
  have BD := hid ((Below.refl w7.heap.size w7).drew)
  clear x0 x1 B2 B47 HG HG7 S7 S7t
  go_upto_region 8 with fail
  refine wpIn_wide.1 (wpIn_region_S (n := 0) (fun wq => Below w7.heap.size w7 wq) [] (by kernel_rfl) BD.out (fun hHeld => ?_))
  generalize w7.drew = wd at *
  refine wpAnyG_pure 0 (v := ?_) (fun _ => trivial) (by simp only [List.getElem?_toArray, List.getElem?_cons_succ, List.getElem?_cons_zero]; rfl) (by kernel_rfl) (fun _ _ _ _ _ h => h) ⟨(by rfl), (by intro c h; cases h), ?_⟩ hHeld ?_
  rotate_left
  focus (intro wS hSw; (try replace hSw := HSF.out wS hSw); (try dsimp only at hSw); go_simp; (try with_reducible rfl))
  (try simp only [Act.put, List.setIfInBounds_toArray, List.set_cons_zero, List.set_cons_succ])
  refine wpAnyG_pure 1 (v := ?_) (fun _ => trivial) (by simp only [List.getElem?_toArray, List.getElem?_cons_succ, List.getElem?_cons_zero]; rfl) (by kernel_rfl) (fun _ _ _ _ _ h => h) ⟨(by rfl), (by intro c h; cases h), ?_⟩ hHeld ?_
  rotate_left
  focus (intro wS hSw; (try replace hSw := HSF.out wS hSw); (try dsimp only at hSw); go_simp; (try with_reducible rfl))
  (try simp only [Act.put, List.setIfInBounds_toArray, List.set_cons_zero, List.set_cons_succ])
  refine wpAnyG_pure 2 (v := ?_) (fun _ => trivial) (by simp only [List.getElem?_toArray, List.getElem?_cons_succ, List.getElem?_cons_zero]; rfl) (by kernel_rfl) (fun _ _ _ _ _ h => h) ⟨(by rfl), (by intro c h; cases h), ?_⟩ hHeld ?_
  rotate_left
  focus (intro wS hSw; (try replace hSw := HSF.out wS hSw); (try dsimp only at hSw); go_simp; (try with_reducible rfl))
  (try simp only [Act.put, List.setIfInBounds_toArray, List.set_cons_zero, List.set_cons_succ])
  refine wpAnyG_pure 3 (v := ?_) (fun _ => trivial) (by simp only [List.getElem?_toArray, List.getElem?_cons_succ, List.getElem?_cons_zero]; rfl) (by kernel_rfl) (fun _ _ _ _ _ h => h) ⟨(by rfl), (by intro c h; cases h), ?_⟩ hHeld ?_
  rotate_left
  focus (intro wS hSw; (try replace hSw := HSF.out wS hSw); (try dsimp only at hSw); go_simp; (try with_reducible rfl))
  (try simp only [Act.put, List.setIfInBounds_toArray, List.set_cons_zero, List.set_cons_succ])
  refine wpAnyG_pure 4 (v := ?_) (fun _ => trivial) (by simp only [List.getElem?_toArray, List.getElem?_cons_succ, List.getElem?_cons_zero]; rfl) (by kernel_rfl) (fun _ _ _ _ _ h => h) ⟨(by rfl), (by intro c h; cases h), ?_⟩ hHeld ?_
  rotate_left
  focus (intro wS hSw; (try replace hSw := HSF.out wS hSw); (try dsimp only at hSw); go_simp; (try with_reducible rfl))
  (try simp only [Act.put, List.setIfInBounds_toArray, List.set_cons_zero, List.set_cons_succ])
  refine wpAnyG_pure 5 (v := ?_) (fun _ => trivial) (by simp only [List.getElem?_toArray, List.getElem?_cons_succ, List.getElem?_cons_zero]; rfl) (by kernel_rfl) (fun _ _ _ _ _ h => h) ⟨(by rfl), (by intro c h; cases h), ?_⟩ hHeld ?_
  rotate_left
  focus (intro wS hSw; (try replace hSw := HSF.out wS hSw); (try dsimp only at hSw); go_simp; (try with_reducible rfl))
  (try simp only [Act.put, List.setIfInBounds_toArray, List.set_cons_zero, List.set_cons_succ])
  refine wpAnyG_pure 6 (v := ?_) (fun _ => trivial) (by simp only [List.getElem?_toArray, List.getElem?_cons_succ, List.getElem?_cons_zero]; rfl) (by kernel_rfl) (fun _ _ _ _ _ h => h) ⟨(by rfl), (by intro c h; cases h), ?_⟩ hHeld ?_
  rotate_left
  focus (intro wS hSw; (try replace hSw := HSF.out wS hSw); (try dsimp only at hSw); go_simp; (try with_reducible rfl))
  (try simp only [Act.put, List.setIfInBounds_toArray, List.set_cons_zero, List.set_cons_succ])
  refine wpAnyG_pure 7 (v := ?_) (fun _ => trivial) (by simp only [List.getElem?_toArray, List.getElem?_cons_succ, List.getElem?_cons_zero]; rfl) (by kernel_rfl) (fun _ _ _ _ _ h => h) ⟨(by rfl), (by intro c h; cases h), ?_⟩ hHeld ?_
  rotate_left
  focus (intro wS hSw; (try replace hSw := HSF.out wS hSw); (try dsimp only at hSw); go_simp; (try with_reducible rfl))
  (try simp only [Act.put, List.setIfInBounds_toArray, List.set_cons_zero, List.set_cons_succ])
  refine wpAnyG_pure 8 (v := ?_) (fun _ => trivial) (by simp only [List.getElem?_toArray, List.getElem?_cons_succ, List.getElem?_cons_zero]; rfl) (by kernel_rfl) (fun _ _ _ _ _ h => h) ⟨(by rfl), (by intro c h; cases h), ?_⟩ hHeld ?_
  rotate_left
  focus (intro wS hSw; (try replace hSw := HSF.out wS hSw); (try dsimp only at hSw); go_simp; (try with_reducible rfl))
  (try simp only [Act.put, List.setIfInBounds_toArray, List.set_cons_zero, List.set_cons_succ])
  refine wpAnyG_pure 9 (v := ?_) (fun _ => trivial) (by simp only [List.getElem?_toArray, List.getElem?_cons_succ, List.getElem?_cons_zero]; rfl) (by kernel_rfl) (fun _ _ _ _ _ h => h) ⟨(by rfl), (by intro c h; cases h), ?_⟩ hHeld ?_
  rotate_left
  focus (intro wS hSw; (try replace hSw := HSF.out wS hSw); (try dsimp only at hSw); go_simp; (try with_reducible rfl))
  (try simp only [Act.put, List.setIfInBounds_toArray, List.set_cons_zero, List.set_cons_succ])
  refine wpAnyG_pure 10 (v := ?_) (fun _ => trivial) (by simp only [List.getElem?_toArray, List.getElem?_cons_succ, List.getElem?_cons_zero]; rfl) (by kernel_rfl) (fun _ _ _ _ _ h => h) ⟨(by rfl), (by intro c h; cases h), ?_⟩ hHeld ?_
  rotate_left
  focus (intro wS hSw; (try replace hSw := HSF.out wS hSw); (try dsimp only at hSw); go_simp; (try with_reducible rfl))
  (try simp only [Act.put, List.setIfInBounds_toArray, List.set_cons_zero, List.set_cons_succ])
  refine wpAnyG_pure 11 (v := ?_) (fun _ => trivial) (by simp only [List.getElem?_toArray, List.getElem?_cons_succ, List.getElem?_cons_zero]; rfl) (by kernel_rfl) (fun _ _ _ _ _ h => h) ⟨(by rfl), (by intro c h; cases h), ?_⟩ hHeld ?_
  rotate_left
  focus (intro wS hSw; (try replace hSw := HSF.out wS hSw); (try dsimp only at hSw); go_simp; (try with_reducible rfl))
  (try simp only [Act.put, List.setIfInBounds_toArray, List.set_cons_zero, List.set_cons_succ])
  refine wpAnyG_pure 12 (v := ?_) (fun _ => trivial) (by simp only [List.getElem?_toArray, List.getElem?_cons_succ, List.getElem?_cons_zero]; rfl) (by kernel_rfl) (fun _ _ _ _ _ h => h) ⟨(by rfl), (by intro c h; cases h), ?_⟩ hHeld ?_
  rotate_left
  focus (intro wS hSw; (try replace hSw := HSF.out wS hSw); (try dsimp only at hSw); go_simp; (try with_reducible rfl))
  (try simp only [Act.put, List.setIfInBounds_toArray, List.set_cons_zero, List.set_cons_succ])
  refine wpAnyG_pure 13 (v := ?_) (fun _ => trivial) (by simp only [List.getElem?_toArray, List.getElem?_cons_succ, List.getElem?_cons_zero]; rfl) (by kernel_rfl) (fun _ _ _ _ _ h => h) ⟨(by rfl), (by intro c h; cases h), ?_⟩ hHeld ?_
  rotate_left
  focus (intro wS hSw; (try replace hSw := HSF.out wS hSw); (try dsimp only at hSw); go_simp; (try with_reducible rfl))
  (try simp only [Act.put, List.setIfInBounds_toArray, List.set_cons_zero, List.set_cons_succ])
  refine wpAnyG_pure 14 (v := ?_) (fun _ => trivial) (by simp only [List.getElem?_toArray, List.getElem?_cons_succ, List.getElem?_cons_zero]; rfl) (by kernel_rfl) (fun _ _ _ _ _ h => h) ⟨(by rfl), (by intro c h; cases h), ?_⟩ hHeld ?_
  rotate_left
  focus (intro wS hSw; (try replace hSw := HSF.out wS hSw); (try dsimp only at hSw); go_simp; (try with_reducible rfl))
  (try simp only [Act.put, List.setIfInBounds_toArray, List.set_cons_zero, List.set_cons_succ])
  refine wpAnyG_pure 15 (v := ?_) (fun _ => trivial) (by simp only [List.getElem?_toArray, List.getElem?_cons_succ, List.getElem?_cons_zero]; rfl) (by kernel_rfl) (fun _ _ _ _ _ h => h) ⟨(by rfl), (by intro c h; cases h), ?_⟩ hHeld ?_
  rotate_left
  focus (intro wS hSw; (try replace hSw := HSF.out wS hSw); (try dsimp only at hSw); go_simp; (try with_reducible rfl))
  (try simp only [Act.put, List.setIfInBounds_toArray, List.set_cons_zero, List.set_cons_succ])
  refine wpAnyG_pure 16 (v := ?_) (fun _ => trivial) (by simp only [List.getElem?_toArray, List.getElem?_cons_succ, List.getElem?_cons_zero]; rfl) (by kernel_rfl) (fun _ _ _ _ _ h => h) ⟨(by rfl), (by intro c h; cases h), ?_⟩ hHeld ?_
  rotate_left
  focus (intro wS hSw; (try replace hSw := HSF.out wS hSw); (try dsimp only at hSw); go_simp; (try with_reducible rfl))
  (try simp only [Act.put, List.setIfInBounds_toArray, List.set_cons_zero, List.set_cons_succ])
  refine wpAnyG_pure 17 (v := ?_) (fun _ => trivial) (by simp only [List.getElem?_toArray, List.getElem?_cons_succ, List.getElem?_cons_zero]; rfl) (by kernel_rfl) (fun _ _ _ _ _ h => h) ⟨(by rfl), (by intro c h; cases h), ?_⟩ hHeld ?_
  rotate_left
  focus (intro wS hSw; (try replace hSw := HSF.out wS hSw); (try dsimp only at hSw); go_simp; (try with_reducible rfl))
  (try simp only [Act.put, List.setIfInBounds_toArray, List.set_cons_zero, List.set_cons_succ])
  refine wpAnyG_pure 18 (v := ?_) (fun _ => trivial) (by simp only [List.getElem?_toArray, List.getElem?_cons_succ, List.getElem?_cons_zero]; rfl) (by kernel_rfl) (fun _ _ _ _ _ h => h) ⟨(by rfl), (by intro c h; cases h), ?_⟩ hHeld ?_
  rotate_left
  focus (intro wS hSw; (try replace hSw := HSF.out wS hSw); (try dsimp only at hSw); go_simp; (try with_reducible rfl))
  (try simp only [Act.put, List.setIfInBounds_toArray, List.set_cons_zero, List.set_cons_succ])
  refine wpAnyG_pure 19 (v := ?_) (fun _ => trivial) (by simp only [List.getElem?_toArray, List.getElem?_cons_succ, List.getElem?_cons_zero]; rfl) (by kernel_rfl) (fun _ _ _ _ _ h => h) ⟨(by rfl), (by intro c h; cases h), ?_⟩ hHeld ?_
  rotate_left
  focus (intro wS hSw; (try replace hSw := HSF.out wS hSw); (try dsimp only at hSw); go_simp; (try with_reducible rfl))
  (try simp only [Act.put, List.setIfInBounds_toArray, List.set_cons_zero, List.set_cons_succ])
  refine wpAnyG_pure 20 (v := ?_) (fun _ => trivial) (by simp only [List.getElem?_toArray, List.getElem?_cons_succ, List.getElem?_cons_zero]; rfl) (by kernel_rfl) (fun _ _ _ _ _ h => h) ⟨(by rfl), (by intro c h; cases h), ?_⟩ hHeld ?_
  rotate_left
  focus (intro wS hSw; (try replace hSw := HSF.out wS hSw); (try dsimp only at hSw); go_simp; (try with_reducible rfl))
  (try simp only [Act.put, List.setIfInBounds_toArray, List.set_cons_zero, List.set_cons_succ])
  refine wpAnyG_pure 21 (v := ?_) (fun _ => trivial) (by simp only [List.getElem?_toArray, List.getElem?_cons_succ, List.getElem?_cons_zero]; rfl) (by kernel_rfl) (fun _ _ _ _ _ h => h) ⟨(by rfl), (by intro c h; cases h), ?_⟩ hHeld ?_
  rotate_left
  focus (intro wS hSw; (try replace hSw := HSF.out wS hSw); (try dsimp only at hSw); go_simp; (try with_reducible rfl))
  (try simp only [Act.put, List.setIfInBounds_toArray, List.set_cons_zero, List.set_cons_succ])
  refine wpAnyG_pure 22 (v := ?_) (fun _ => trivial) (by simp only [List.getElem?_toArray, List.getElem?_cons_succ, List.getElem?_cons_zero]; rfl) (by kernel_rfl) (fun _ _ _ _ _ h => h) ⟨(by rfl), (by intro c h; cases h), ?_⟩ hHeld ?_
  rotate_left
  focus (intro wS hSw; (try replace hSw := HSF.out wS hSw); (try dsimp only at hSw); go_simp; (try with_reducible rfl))
  (try simp only [Act.put, List.setIfInBounds_toArray, List.set_cons_zero, List.set_cons_succ])
  refine wpAnyG_take 23 (v := ?_) (fun _ => trivial) (by simp only [List.getElem?_toArray, List.getElem?_cons_succ, List.getElem?_cons_zero]; rfl) (by kernel_rfl) (fun _ _ _ _ _ h => h) ⟨(by rfl), (by intro c h; cases h), ?_⟩ hHeld ?_
  rotate_left
  focus (intro wS hSw; (try replace hSw := HSF.out wS hSw); (try dsimp only at hSw); go_simp; (try with_reducible rfl))
  (try simp only [Act.put, List.setIfInBounds_toArray, List.set_cons_zero, List.set_cons_succ])
  refine wpAnyG_pure 24 (v := ?_) (fun _ => trivial) (by simp only [List.getElem?_toArray, List.getElem?_cons_succ, List.getElem?_cons_zero]; rfl) (by kernel_rfl) (fun _ _ _ _ _ h => h) ⟨(by rfl), (by intro c h; cases h), ?_⟩ hHeld ?_
  rotate_left
  focus (intro wS hSw; (try replace hSw := HSF.out wS hSw); (try dsimp only at hSw); go_simp; (try with_reducible rfl))
  (try simp only [Act.put, List.setIfInBounds_toArray, List.set_cons_zero, List.set_cons_succ])
  refine wpAnyS_ready [25, 27] (by kernel_rfl) (by simp) (AllReadyS.consG (by simp only [List.getElem?_toArray, List.getElem?_cons_succ, List.getElem?_cons_zero]; rfl) (by rfl) (fun K hK => ?_) (AllReadyS.consG (by simp only [List.getElem?_toArray, List.getElem?_cons_succ, List.getElem?_cons_zero]; rfl) (by rfl) (fun K hK => ?_) AllReadyS.nil))
  · --25
    go_simp
    have B25 := hid (BD.out.alloc BD.out.size (Obj.cells #[.int .i64 0, .int .i64 7] 3))
    have X25 := hid (Blk.new wd 3 #[.int .i64 0, .int .i64 7])
    refine hK.out _ _ B25.out ?_
    clear hK K
    (try simp only [Act.put, List.setIfInBounds_toArray, List.set_cons_zero, List.set_cons_succ])
    clear hHeld
    have hHeld := B25.out
    generalize wd.heap.size = g25 at *
    generalize (wd.alloc (Obj.cells #[.int .i64 0, .int .i64 7] 3)) = w25 at *
    refine wpAnyS_ready [26, 27] (by kernel_rfl) (by simp) (AllReadyS.consG (by simp only [List.getElem?_toArray, List.getElem?_cons_succ, List.getElem?_cons_zero]; rfl) (by rfl) (fun K hK => ?_) (AllReadyS.consG (by simp only [List.getElem?_toArray, List.getElem?_cons_succ, List.getElem?_cons_zero]; rfl) (by rfl) (fun K hK => ?_) AllReadyS.nil))
    · --26 then 27
      have HFo := hid (HFOL.out _ B25.out _ X25.out)
      refine callV (by intro c h; cases h) (by go_simp; try with_reducible rfl) HFo.out ?_
      intro vF w26 hx
      obtain ⟨ho26, hB26⟩ := hx
      have B26 := hid (B25.out.trans (hB26.mono B25.out.size))
      have OV := hid (show OwnI w26 0 vF [0, 1, 2] from own_base ho26 (Nat.zero_le _))
      refine hK.out _ _ B26.out ?_
      (try simp only [Act.put, List.setIfInBounds_toArray, List.set_cons_zero, List.set_cons_succ])
      clear hK K ho26 hB26 HFo
      clear hHeld
      have hHeld := B26.out
      refine wpAnyS_ready [27] (by kernel_rfl) (by simp) (AllReadyS.consG (by simp only [List.getElem?_toArray, List.getElem?_cons_succ, List.getElem?_cons_zero]; rfl) (by rfl) (fun K hK => ?_) AllReadyS.nil)
      go_simp
      have B27 := hid (B26.out.alloc B26.out.size (Obj.cells #[.int .i64 0, .int .i64 1, .int .i64 2] 3))
      have X27 := hid (Blk.new w26 3 #[.int .i64 0, .int .i64 1, .int .i64 2])
      refine hK.out _ _ B27.out ?_
      clear hK K
      (try simp only [Act.put, List.setIfInBounds_toArray, List.set_cons_zero, List.set_cons_succ])
      have OV2 := hid (OV.out.alloc (Obj.cells #[.int .i64 0, .int .i64 1, .int .i64 2] 3))
      clear OV
      have OV := hid OV2.out
      clear OV2
      clear hHeld
      have hHeld := B27.out
      generalize w26.heap.size = g27 at *
      generalize (w26.alloc (Obj.cells #[.int .i64 0, .int .i64 1, .int .i64 2] 3)) = w27 at *
      obtain ⟨AV, cV, rfl, -, -, hsv⟩ := OV.out.slr i012
      have SV := hid hsv
      clear hsv
      have HSa := hid (HSAM.out _ _ cV _ SV.out X27.out)
      refine wpAnyS_ready [28] (by kernel_rfl) (by simp) (AllReadyS.consG (by simp only [List.getElem?_toArray, List.getElem?_cons_succ, List.getElem?_cons_zero]; rfl) (by rfl) (fun K hK => ?_) AllReadyS.nil)
      refine callS (by intro c h; cases h) (by go_simp; try with_reducible rfl) HSa.out ?_
      intro w28 hBq
      have B28 := hid (B27.out.trans (hBq.mono B27.out.size))
      refine hK.out _ _ B28.out ?_
      (try simp only [Act.put, List.setIfInBounds_toArray, List.set_cons_zero, List.set_cons_succ])
      clear hK K hBq HSa SV OV
      clear hHeld
      have hHeld := B28.out
      refine wpAnyG_pure 29 (v := ?_) (fun _ => trivial) (by simp only [List.getElem?_toArray, List.getElem?_cons_succ, List.getElem?_cons_zero]; rfl) (by kernel_rfl) (fun _ _ _ _ _ h => h) ⟨(by rfl), (by intro c h; cases h), ?_⟩ hHeld ?_
      rotate_left
      focus (intro wS hSw; (try replace hSw := HSF.out wS hSw); (try dsimp only at hSw); go_simp; (try with_reducible rfl))
      (try simp only [Act.put, List.setIfInBounds_toArray, List.set_cons_zero, List.set_cons_succ])
      refine wpAnyG_pure 30 (v := ?_) (fun _ => trivial) (by simp only [List.getElem?_toArray, List.getElem?_cons_succ, List.getElem?_cons_zero]; rfl) (by kernel_rfl) (fun _ _ _ _ _ h => h) ⟨(by rfl), (by intro c h; cases h), ?_⟩ hHeld ?_
      rotate_left
      focus (intro wS hSw; (try replace hSw := HSF.out wS hSw); (try dsimp only at hSw); go_simp; (try with_reducible rfl))
      (try simp only [Act.put, List.setIfInBounds_toArray, List.set_cons_zero, List.set_cons_succ])
      refine wpAnyG_take 31 (v := ?_) (fun _ => trivial) (by simp only [List.getElem?_toArray, List.getElem?_cons_succ, List.getElem?_cons_zero]; rfl) (by kernel_rfl) (fun _ _ _ _ _ h => h) ⟨(by rfl), (by intro c h; cases h), ?_⟩ hHeld ?_
      rotate_left
      focus (intro wS hSw; (try replace hSw := HSF.out wS hSw); (try dsimp only at hSw); go_simp; (try with_reducible rfl))
      (try simp only [Act.put, List.setIfInBounds_toArray, List.set_cons_zero, List.set_cons_succ])
      refine wpAnyG_pure 32 (v := ?_) (fun _ => trivial) (by simp only [List.getElem?_toArray, List.getElem?_cons_succ, List.getElem?_cons_zero]; rfl) (by kernel_rfl) (fun _ _ _ _ _ h => h) ⟨(by rfl), (by intro c h; cases h), ?_⟩ hHeld ?_
      rotate_left
      focus (intro wS hSw; (try replace hSw := HSF.out wS hSw); (try dsimp only at hSw); go_simp; (try with_reducible rfl))
      (try simp only [Act.put, List.setIfInBounds_toArray, List.set_cons_zero, List.set_cons_succ])
      refine wpAnyG_pure 34 (v := ?_) (fun _ => trivial) (by simp only [List.getElem?_toArray, List.getElem?_cons_succ, List.getElem?_cons_zero]; rfl) (by kernel_rfl) (fun _ _ _ _ _ h => h) ⟨(by rfl), (by intro c h; cases h), ?_⟩ hHeld ?_
      rotate_left
      focus (intro wS hSw; (try replace hSw := HSF.out wS hSw); (try dsimp only at hSw); go_simp; (try with_reducible rfl))
      (try simp only [Act.put, List.setIfInBounds_toArray, List.set_cons_zero, List.set_cons_succ])
      refine wpAnyG_pure 35 (v := ?_) (fun _ => trivial) (by simp only [List.getElem?_toArray, List.getElem?_cons_succ, List.getElem?_cons_zero]; rfl) (by kernel_rfl) (fun _ _ _ _ _ h => h) ⟨(by rfl), (by intro c h; cases h), ?_⟩ hHeld ?_
      rotate_left
      focus (intro wS hSw; (try replace hSw := HSF.out wS hSw); (try dsimp only at hSw); go_simp; (try with_reducible rfl))
      (try simp only [Act.put, List.setIfInBounds_toArray, List.set_cons_zero, List.set_cons_succ])
      have HNe := hid (HNDS.out _ B28.out)
      refine wpAnyS_ready [33] (by kernel_rfl) (by simp) (AllReadyS.consG (by simp only [List.getElem?_toArray, List.getElem?_cons_succ, List.getElem?_cons_zero]; rfl) (by rfl) (fun K hK => ?_) AllReadyS.nil)
      refine callV (by intro c h; cases h) (by go_simp; try with_reducible rfl) HNe.out ?_
      intro vN w33 hx
      obtain ⟨ho33, hB33⟩ := hx
      have B33 := hid (B28.out.trans (hB33.mono B28.out.size))
      obtain ⟨AN, cN, rfl, -, -, hsn⟩ := RK.Own.slr ho33 exN_ok
      have SN := hid hsn
      refine hK.out _ _ B33.out ?_
      (try simp only [Act.put, List.setIfInBounds_toArray, List.set_cons_zero, List.set_cons_succ])
      clear hK K ho33 hB33 hsn HNe
      clear hHeld
      have hHeld := B33.out
      have HSr := hid (HSRW.out _ B33.out AN cN SN.out)
      refine wpAnyS_ready [36] (by kernel_rfl) (by simp) (AllReadyS.consG (by simp only [List.getElem?_toArray, List.getElem?_cons_succ, List.getElem?_cons_zero]; rfl) (by rfl) (fun K hK => ?_) AllReadyS.nil)
      refine callS (by intro c h; cases h) (by go_simp; try with_reducible rfl) HSr.out ?_
      intro w36 hBq
      have B36 := hid (B33.out.trans (hBq.mono B33.out.size))
      refine hK.out _ _ B36.out ?_
      (try simp only [Act.put, List.setIfInBounds_toArray, List.set_cons_zero, List.set_cons_succ])
      clear hK K hBq HSr SN
      clear hHeld
      have hHeld := B36.out
      refine wpAnyG_pure 37 (v := ?_) (fun _ => trivial) (by simp only [List.getElem?_toArray, List.getElem?_cons_succ, List.getElem?_cons_zero]; rfl) (by kernel_rfl) (fun _ _ _ _ _ h => h) ⟨(by rfl), (by intro c h; cases h), ?_⟩ hHeld ?_
      rotate_left
      focus (intro wS hSw; (try replace hSw := HSF.out wS hSw); (try dsimp only at hSw); go_simp; (try with_reducible rfl))
      (try simp only [Act.put, List.setIfInBounds_toArray, List.set_cons_zero, List.set_cons_succ])
      refine wpAnyG_pure 38 (v := ?_) (fun _ => trivial) (by simp only [List.getElem?_toArray, List.getElem?_cons_succ, List.getElem?_cons_zero]; rfl) (by kernel_rfl) (fun _ _ _ _ _ h => h) ⟨(by rfl), (by intro c h; cases h), ?_⟩ hHeld ?_
      rotate_left
      focus (intro wS hSw; (try replace hSw := HSF.out wS hSw); (try dsimp only at hSw); go_simp; (try with_reducible rfl))
      (try simp only [Act.put, List.setIfInBounds_toArray, List.set_cons_zero, List.set_cons_succ])
      refine wpAnyS_done (by kernel_rfl) ?_
      have BZ := hid (B7.out.trans (B36.out.mono B7.out.size))
      clear hHeld HSF
      as_aux_lemma =>
        go_wp2_with fail
        go_ret
        exact ⟨rfl, BZ.out⟩
    · --27 then 26
      go_simp
      have B27 := hid (B25.out.alloc B25.out.size (Obj.cells #[.int .i64 0, .int .i64 1, .int .i64 2] 3))
      have X27 := hid (Blk.new w25 3 #[.int .i64 0, .int .i64 1, .int .i64 2])
      refine hK.out _ _ B27.out ?_
      clear hK K
      (try simp only [Act.put, List.setIfInBounds_toArray, List.set_cons_zero, List.set_cons_succ])
      have X25b := hid (X25.out.alloc (Obj.cells #[.int .i64 0, .int .i64 1, .int .i64 2] 3))
      clear hHeld
      have hHeld := B27.out
      generalize w25.heap.size = g27 at *
      generalize (w25.alloc (Obj.cells #[.int .i64 0, .int .i64 1, .int .i64 2] 3)) = w27 at *
      refine wpAnyS_ready [26] (by kernel_rfl) (by simp) (AllReadyS.consG (by simp only [List.getElem?_toArray, List.getElem?_cons_succ, List.getElem?_cons_zero]; rfl) (by rfl) (fun K hK => ?_) AllReadyS.nil)
      have HFo := hid (HFOL.out _ B27.out _ X25b.out)
      refine callV (by intro c h; cases h) (by go_simp; try with_reducible rfl) HFo.out ?_
      intro vF w26 hx
      obtain ⟨ho26, hB26⟩ := hx
      have B26 := hid (B27.out.trans (hB26.mono B27.out.size))
      have OV := hid (show OwnI w26 0 vF [0, 1, 2] from own_base ho26 (Nat.zero_le _))
      have X27b := hid (X27.out.below hB26 X27.out.lt)
      refine hK.out _ _ B26.out ?_
      (try simp only [Act.put, List.setIfInBounds_toArray, List.set_cons_zero, List.set_cons_succ])
      clear hK K ho26 hB26 HFo X27 X25 X25b
      clear hHeld
      have hHeld := B26.out
      obtain ⟨AV, cV, rfl, -, -, hsv⟩ := OV.out.slr i012
      have SV := hid hsv
      clear hsv
      have HSa := hid (HSAM.out _ _ cV _ SV.out X27b.out)
      refine wpAnyS_ready [28] (by kernel_rfl) (by simp) (AllReadyS.consG (by simp only [List.getElem?_toArray, List.getElem?_cons_succ, List.getElem?_cons_zero]; rfl) (by rfl) (fun K hK => ?_) AllReadyS.nil)
      refine callS (by intro c h; cases h) (by go_simp; try with_reducible rfl) HSa.out ?_
      intro w28 hBq
      have B28 := hid (B26.out.trans (hBq.mono B26.out.size))
      refine hK.out _ _ B28.out ?_
      (try simp only [Act.put, List.setIfInBounds_toArray, List.set_cons_zero, List.set_cons_succ])
      clear hK K hBq HSa SV OV
      clear hHeld
      have hHeld := B28.out
      refine wpAnyG_pure 29 (v := ?_) (fun _ => trivial) (by simp only [List.getElem?_toArray, List.getElem?_cons_succ, List.getElem?_cons_zero]; rfl) (by kernel_rfl) (fun _ _ _ _ _ h => h) ⟨(by rfl), (by intro c h; cases h), ?_⟩ hHeld ?_
      rotate_left
      focus (intro wS hSw; (try replace hSw := HSF.out wS hSw); (try dsimp only at hSw); go_simp; (try with_reducible rfl))
      (try simp only [Act.put, List.setIfInBounds_toArray, List.set_cons_zero, List.set_cons_succ])
      refine wpAnyG_pure 30 (v := ?_) (fun _ => trivial) (by simp only [List.getElem?_toArray, List.getElem?_cons_succ, List.getElem?_cons_zero]; rfl) (by kernel_rfl) (fun _ _ _ _ _ h => h) ⟨(by rfl), (by intro c h; cases h), ?_⟩ hHeld ?_
      rotate_left
      focus (intro wS hSw; (try replace hSw := HSF.out wS hSw); (try dsimp only at hSw); go_simp; (try with_reducible rfl))
      (try simp only [Act.put, List.setIfInBounds_toArray, List.set_cons_zero, List.set_cons_succ])
      refine wpAnyG_take 31 (v := ?_) (fun _ => trivial) (by simp only [List.getElem?_toArray, List.getElem?_cons_succ, List.getElem?_cons_zero]; rfl) (by kernel_rfl) (fun _ _ _ _ _ h => h) ⟨(by rfl), (by intro c h; cases h), ?_⟩ hHeld ?_
      rotate_left
      focus (intro wS hSw; (try replace hSw := HSF.out wS hSw); (try dsimp only at hSw); go_simp; (try with_reducible rfl))
      (try simp only [Act.put, List.setIfInBounds_toArray, List.set_cons_zero, List.set_cons_succ])
      refine wpAnyG_pure 32 (v := ?_) (fun _ => trivial) (by simp only [List.getElem?_toArray, List.getElem?_cons_succ, List.getElem?_cons_zero]; rfl) (by kernel_rfl) (fun _ _ _ _ _ h => h) ⟨(by rfl), (by intro c h; cases h), ?_⟩ hHeld ?_
      rotate_left
      focus (intro wS hSw; (try replace hSw := HSF.out wS hSw); (try dsimp only at hSw); go_simp; (try with_reducible rfl))
      (try simp only [Act.put, List.setIfInBounds_toArray, List.set_cons_zero, List.set_cons_succ])
      refine wpAnyG_pure 34 (v := ?_) (fun _ => trivial) (by simp only [List.getElem?_toArray, List.getElem?_cons_succ, List.getElem?_cons_zero]; rfl) (by kernel_rfl) (fun _ _ _ _ _ h => h) ⟨(by rfl), (by intro c h; cases h), ?_⟩ hHeld ?_
      rotate_left
      focus (intro wS hSw; (try replace hSw := HSF.out wS hSw); (try dsimp only at hSw); go_simp; (try with_reducible rfl))
      (try simp only [Act.put, List.setIfInBounds_toArray, List.set_cons_zero, List.set_cons_succ])
      refine wpAnyG_pure 35 (v := ?_) (fun _ => trivial) (by simp only [List.getElem?_toArray, List.getElem?_cons_succ, List.getElem?_cons_zero]; rfl) (by kernel_rfl) (fun _ _ _ _ _ h => h) ⟨(by rfl), (by intro c h; cases h), ?_⟩ hHeld ?_
      rotate_left
      focus (intro wS hSw; (try replace hSw := HSF.out wS hSw); (try dsimp only at hSw); go_simp; (try with_reducible rfl))
      (try simp only [Act.put, List.setIfInBounds_toArray, List.set_cons_zero, List.set_cons_succ])
      have HNe := hid (HNDS.out _ B28.out)
      refine wpAnyS_ready [33] (by kernel_rfl) (by simp) (AllReadyS.consG (by simp only [List.getElem?_toArray, List.getElem?_cons_succ, List.getElem?_cons_zero]; rfl) (by rfl) (fun K hK => ?_) AllReadyS.nil)
      refine callV (by intro c h; cases h) (by go_simp; try with_reducible rfl) HNe.out ?_
      intro vN w33 hx
      obtain ⟨ho33, hB33⟩ := hx
      have B33 := hid (B28.out.trans (hB33.mono B28.out.size))
      obtain ⟨AN, cN, rfl, -, -, hsn⟩ := RK.Own.slr ho33 exN_ok
      have SN := hid hsn
      refine hK.out _ _ B33.out ?_
      (try simp only [Act.put, List.setIfInBounds_toArray, List.set_cons_zero, List.set_cons_succ])
      clear hK K ho33 hB33 hsn HNe
      clear hHeld
      have hHeld := B33.out
      have HSr := hid (HSRW.out _ B33.out AN cN SN.out)
      refine wpAnyS_ready [36] (by kernel_rfl) (by simp) (AllReadyS.consG (by simp only [List.getElem?_toArray, List.getElem?_cons_succ, List.getElem?_cons_zero]; rfl) (by rfl) (fun K hK => ?_) AllReadyS.nil)
      refine callS (by intro c h; cases h) (by go_simp; try with_reducible rfl) HSr.out ?_
      intro w36 hBq
      have B36 := hid (B33.out.trans (hBq.mono B33.out.size))
      refine hK.out _ _ B36.out ?_
      (try simp only [Act.put, List.setIfInBounds_toArray, List.set_cons_zero, List.set_cons_succ])
      clear hK K hBq HSr SN
      clear hHeld
      have hHeld := B36.out
      refine wpAnyG_pure 37 (v := ?_) (fun _ => trivial) (by simp only [List.getElem?_toArray, List.getElem?_cons_succ, List.getElem?_cons_zero]; rfl) (by kernel_rfl) (fun _ _ _ _ _ h => h) ⟨(by rfl), (by intro c h; cases h), ?_⟩ hHeld ?_
      rotate_left
      focus (intro wS hSw; (try replace hSw := HSF.out wS hSw); (try dsimp only at hSw); go_simp; (try with_reducible rfl))
      (try simp only [Act.put, List.setIfInBounds_toArray, List.set_cons_zero, List.set_cons_succ])
      refine wpAnyG_pure 38 (v := ?_) (fun _ => trivial) (by simp only [List.getElem?_toArray, List.getElem?_cons_succ, List.getElem?_cons_zero]; rfl) (by kernel_rfl) (fun _ _ _ _ _ h => h) ⟨(by rfl), (by intro c h; cases h), ?_⟩ hHeld ?_
      rotate_left
      focus (intro wS hSw; (try replace hSw := HSF.out wS hSw); (try dsimp only at hSw); go_simp; (try with_reducible rfl))
      (try simp only [Act.put, List.setIfInBounds_toArray, List.set_cons_zero, List.set_cons_succ])
      refine wpAnyS_done (by kernel_rfl) ?_
      have BZ := hid (B7.out.trans (B36.out.mono B7.out.size))
      clear hHeld HSF
      as_aux_lemma =>
        go_wp2_with fail
        go_ret
        exact ⟨rfl, BZ.out⟩
  · --27 first
    go_simp
    have B27 := hid (BD.out.alloc BD.out.size (Obj.cells #[.int .i64 0, .int .i64 1, .int .i64 2] 3))
    have X27 := hid (Blk.new wd 3 #[.int .i64 0, .int .i64 1, .int .i64 2])
    refine hK.out _ _ B27.out ?_
    clear hK K
    (try simp only [Act.put, List.setIfInBounds_toArray, List.set_cons_zero, List.set_cons_succ])
    clear hHeld
    have hHeld := B27.out
    generalize wd.heap.size = g27 at *
    generalize (wd.alloc (Obj.cells #[.int .i64 0, .int .i64 1, .int .i64 2] 3)) = w27 at *
    refine wpAnyS_ready [25] (by kernel_rfl) (by simp) (AllReadyS.consG (by simp only [List.getElem?_toArray, List.getElem?_cons_succ, List.getElem?_cons_zero]; rfl) (by rfl) (fun K hK => ?_) AllReadyS.nil)
    go_simp
    have B25 := hid (B27.out.alloc B27.out.size (Obj.cells #[.int .i64 0, .int .i64 7] 3))
    have X25 := hid (Blk.new w27 3 #[.int .i64 0, .int .i64 7])
    refine hK.out _ _ B25.out ?_
    clear hK K
    (try simp only [Act.put, List.setIfInBounds_toArray, List.set_cons_zero, List.set_cons_succ])
    have X27b := hid (X27.out.alloc (Obj.cells #[.int .i64 0, .int .i64 7] 3))
    clear hHeld
    have hHeld := B25.out
    generalize w27.heap.size = g25 at *
    generalize (w27.alloc (Obj.cells #[.int .i64 0, .int .i64 7] 3)) = w25 at *
    refine wpAnyS_ready [26] (by kernel_rfl) (by simp) (AllReadyS.consG (by simp only [List.getElem?_toArray, List.getElem?_cons_succ, List.getElem?_cons_zero]; rfl) (by rfl) (fun K hK => ?_) AllReadyS.nil)
    have HFo := hid (HFOL.out _ B25.out _ X25.out)
    refine callV (by intro c h; cases h) (by go_simp; try with_reducible rfl) HFo.out ?_
    intro vF w26 hx
    obtain ⟨ho26, hB26⟩ := hx
    have B26 := hid (B25.out.trans (hB26.mono B25.out.size))
    have OV := hid (show OwnI w26 0 vF [0, 1, 2] from own_base ho26 (Nat.zero_le _))
    have X27c := hid (X27b.out.below hB26 X27b.out.lt)
    refine hK.out _ _ B26.out ?_
    (try simp only [Act.put, List.setIfInBounds_toArray, List.set_cons_zero, List.set_cons_succ])
    clear hK K ho26 hB26 HFo X27 X25 X27b
    clear hHeld
    have hHeld := B26.out
    obtain ⟨AV, cV, rfl, -, -, hsv⟩ := OV.out.slr i012
    have SV := hid hsv
    clear hsv
    have HSa := hid (HSAM.out _ _ cV _ SV.out X27c.out)
    refine wpAnyS_ready [28] (by kernel_rfl) (by simp) (AllReadyS.consG (by simp only [List.getElem?_toArray, List.getElem?_cons_succ, List.getElem?_cons_zero]; rfl) (by rfl) (fun K hK => ?_) AllReadyS.nil)
    refine callS (by intro c h; cases h) (by go_simp; try with_reducible rfl) HSa.out ?_
    intro w28 hBq
    have B28 := hid (B26.out.trans (hBq.mono B26.out.size))
    refine hK.out _ _ B28.out ?_
    (try simp only [Act.put, List.setIfInBounds_toArray, List.set_cons_zero, List.set_cons_succ])
    clear hK K hBq HSa SV OV
    clear hHeld
    have hHeld := B28.out
    refine wpAnyG_pure 29 (v := ?_) (fun _ => trivial) (by simp only [List.getElem?_toArray, List.getElem?_cons_succ, List.getElem?_cons_zero]; rfl) (by kernel_rfl) (fun _ _ _ _ _ h => h) ⟨(by rfl), (by intro c h; cases h), ?_⟩ hHeld ?_
    rotate_left
    focus (intro wS hSw; (try replace hSw := HSF.out wS hSw); (try dsimp only at hSw); go_simp; (try with_reducible rfl))
    (try simp only [Act.put, List.setIfInBounds_toArray, List.set_cons_zero, List.set_cons_succ])
    refine wpAnyG_pure 30 (v := ?_) (fun _ => trivial) (by simp only [List.getElem?_toArray, List.getElem?_cons_succ, List.getElem?_cons_zero]; rfl) (by kernel_rfl) (fun _ _ _ _ _ h => h) ⟨(by rfl), (by intro c h; cases h), ?_⟩ hHeld ?_
    rotate_left
    focus (intro wS hSw; (try replace hSw := HSF.out wS hSw); (try dsimp only at hSw); go_simp; (try with_reducible rfl))
    (try simp only [Act.put, List.setIfInBounds_toArray, List.set_cons_zero, List.set_cons_succ])
    refine wpAnyG_take 31 (v := ?_) (fun _ => trivial) (by simp only [List.getElem?_toArray, List.getElem?_cons_succ, List.getElem?_cons_zero]; rfl) (by kernel_rfl) (fun _ _ _ _ _ h => h) ⟨(by rfl), (by intro c h; cases h), ?_⟩ hHeld ?_
    rotate_left
    focus (intro wS hSw; (try replace hSw := HSF.out wS hSw); (try dsimp only at hSw); go_simp; (try with_reducible rfl))
    (try simp only [Act.put, List.setIfInBounds_toArray, List.set_cons_zero, List.set_cons_succ])
    refine wpAnyG_pure 32 (v := ?_) (fun _ => trivial) (by simp only [List.getElem?_toArray, List.getElem?_cons_succ, List.getElem?_cons_zero]; rfl) (by kernel_rfl) (fun _ _ _ _ _ h => h) ⟨(by rfl), (by intro c h; cases h), ?_⟩ hHeld ?_
    rotate_left
    focus (intro wS hSw; (try replace hSw := HSF.out wS hSw); (try dsimp only at hSw); go_simp; (try with_reducible rfl))
    (try simp only [Act.put, List.setIfInBounds_toArray, List.set_cons_zero, List.set_cons_succ])
    refine wpAnyG_pure 34 (v := ?_) (fun _ => trivial) (by simp only [List.getElem?_toArray, List.getElem?_cons_succ, List.getElem?_cons_zero]; rfl) (by kernel_rfl) (fun _ _ _ _ _ h => h) ⟨(by rfl), (by intro c h; cases h), ?_⟩ hHeld ?_
    rotate_left
    focus (intro wS hSw; (try replace hSw := HSF.out wS hSw); (try dsimp only at hSw); go_simp; (try with_reducible rfl))
    (try simp only [Act.put, List.setIfInBounds_toArray, List.set_cons_zero, List.set_cons_succ])
    refine wpAnyG_pure 35 (v := ?_) (fun _ => trivial) (by simp only [List.getElem?_toArray, List.getElem?_cons_succ, List.getElem?_cons_zero]; rfl) (by kernel_rfl) (fun _ _ _ _ _ h => h) ⟨(by rfl), (by intro c h; cases h), ?_⟩ hHeld ?_
    rotate_left
    focus (intro wS hSw; (try replace hSw := HSF.out wS hSw); (try dsimp only at hSw); go_simp; (try with_reducible rfl))
    (try simp only [Act.put, List.setIfInBounds_toArray, List.set_cons_zero, List.set_cons_succ])
    have HNe := hid (HNDS.out _ B28.out)
    refine wpAnyS_ready [33] (by kernel_rfl) (by simp) (AllReadyS.consG (by simp only [List.getElem?_toArray, List.getElem?_cons_succ, List.getElem?_cons_zero]; rfl) (by rfl) (fun K hK => ?_) AllReadyS.nil)
    refine callV (by intro c h; cases h) (by go_simp; try with_reducible rfl) HNe.out ?_
    intro vN w33 hx
    obtain ⟨ho33, hB33⟩ := hx
    have B33 := hid (B28.out.trans (hB33.mono B28.out.size))
    obtain ⟨AN, cN, rfl, -, -, hsn⟩ := RK.Own.slr ho33 exN_ok
    have SN := hid hsn
    refine hK.out _ _ B33.out ?_
    (try simp only [Act.put, List.setIfInBounds_toArray, List.set_cons_zero, List.set_cons_succ])
    clear hK K ho33 hB33 hsn HNe
    clear hHeld
    have hHeld := B33.out
    have HSr := hid (HSRW.out _ B33.out AN cN SN.out)
    refine wpAnyS_ready [36] (by kernel_rfl) (by simp) (AllReadyS.consG (by simp only [List.getElem?_toArray, List.getElem?_cons_succ, List.getElem?_cons_zero]; rfl) (by rfl) (fun K hK => ?_) AllReadyS.nil)
    refine callS (by intro c h; cases h) (by go_simp; try with_reducible rfl) HSr.out ?_
    intro w36 hBq
    have B36 := hid (B33.out.trans (hBq.mono B33.out.size))
    refine hK.out _ _ B36.out ?_
    (try simp only [Act.put, List.setIfInBounds_toArray, List.set_cons_zero, List.set_cons_succ])
    clear hK K hBq HSr SN
    clear hHeld
    have hHeld := B36.out
    refine wpAnyG_pure 37 (v := ?_) (fun _ => trivial) (by simp only [List.getElem?_toArray, List.getElem?_cons_succ, List.getElem?_cons_zero]; rfl) (by kernel_rfl) (fun _ _ _ _ _ h => h) ⟨(by rfl), (by intro c h; cases h), ?_⟩ hHeld ?_
    rotate_left
    focus (intro wS hSw; (try replace hSw := HSF.out wS hSw); (try dsimp only at hSw); go_simp; (try with_reducible rfl))
    (try simp only [Act.put, List.setIfInBounds_toArray, List.set_cons_zero, List.set_cons_succ])
    refine wpAnyG_pure 38 (v := ?_) (fun _ => trivial) (by simp only [List.getElem?_toArray, List.getElem?_cons_succ, List.getElem?_cons_zero]; rfl) (by kernel_rfl) (fun _ _ _ _ _ h => h) ⟨(by rfl), (by intro c h; cases h), ?_⟩ hHeld ?_
    rotate_left
    focus (intro wS hSw; (try replace hSw := HSF.out wS hSw); (try dsimp only at hSw); go_simp; (try with_reducible rfl))
    (try simp only [Act.put, List.setIfInBounds_toArray, List.set_cons_zero, List.set_cons_succ])
    refine wpAnyS_done (by kernel_rfl) ?_
    have BZ := hid (B7.out.trans (B36.out.mono B7.out.size))
    clear hHeld HSF
    as_aux_lemma =>
      go_wp2_with fail
      go_ret
      exact ⟨rfl, BZ.out⟩
end Go.Proofs.YtfpehakllnkaeaaDoor
namespace Go.Proofs.YtfpehakllnkaeaaDoor
open Go.RowKit Go.IntWalk

theorem readRows_some {s : List UInt8} {l : List Row} (h : readRows s = some l) : encRows l = s ∧ l.length ≤ s.length ∧ ∀ x ∈ l, P3I x := by
  unfold readRows at h
  split at h
  · rename_i hc
    injection h with h
    subst h
    exact ⟨hc, outRows_len s, outRows_ok s⟩
  · cases h
set_option maxRecDepth 100000 in
set_option maxHeartbeats 4000000 in
theorem tback_any (A : Option Addr) (c : Nat) (l : List Row) (s : ByteArray) (w : World) (hl : l.length ≤ maxLen) (hs : SlR w w.heap.size A l) (he : Env w) :
    Calls Tryd.prog 4 #[.slice A l.length c, .string s] w fun e w' => e = .returned (.bool true) ∧ Below w.heap.size w w' := by
  have HL := hid hl
  unfold maxLen at hl
  have HOK := hid (show ∀ x ∈ l, P3I x from rwRK.oks hs)
  have HSM := hid (tsmall_any w)
  go_enter Tryd.func4, Tryd.ntmps4
  go_wp2_with fail
  refine HSM.out.mono ?_
  rintro e w1 ⟨rfl, hB⟩
  have B1 := hid hB
  clear hB HSM
  by_cases h60 : (60 : Int) < l.length
  · go_wp2_with fail
    go_ret
    exact ⟨rfl, B1.out⟩
  by_cases h1k : (1000 : Int) < s.size
  · go_wp2_with fail
    go_ret
    exact ⟨rfl, B1.out⟩
  have S1 := hid ((hs.below B1.out).more B1.out.size)
  have HTB := hid (tbytes_any A c l w1 (by omega) S1.out (he.below B1.out))
  have hle := encRows_le l HOK.out (by omega)
  have hz : (bs (encRows l)).size ≤ 90000 := by rw [bs_size]; omega
  go_wp2_with fail
  refine HTB.out.mono ?_
  rintro e w2 ⟨rfl, hB⟩
  have B2 := hid (B1.out.trans (hB.mono B1.out.size))
  clear hB HTB S1 B1
  have HRD := hid (tread_any (bs (encRows l)) w2 hz (he.below B2.out))
  rw [show (bs (encRows l)).data.toList = encRows l by simp [bs], readRows_enc l HOK.out (by omega)] at HRD
  clear hle hz
  go_wp2_with fail
  refine HRD.out.mono ?_
  rintro e w3 ⟨Ax, cx, rfl, hx1, hx2, hsx, hB⟩
  have B3 := hid (B2.out.trans (hB.mono B2.out.size))
  have SX := hid hsx
  clear hB HRD B2 hsx hx1 hx2
  have HRD := hid (tread_any s w3 (by omega) (he.below B3.out))
  have hsz := size_list s
  cases hrd : readRows s.data.toList with
  | none =>
    rw [hrd] at HRD
    clear hrd hsz
    go_wp2_with fail
    refine HRD.out.mono ?_
    rintro e w4 ⟨rfl, hB⟩
    have B4 := hid (B3.out.trans (hB.mono B3.out.size))
    have SX4 := hid ((SX.out.below hB).more hB.size)
    have SL4 := hid ((hs.below B4.out).more B4.out.size)
    clear hB HRD B3 SX
    have HSR := hid (samerows_any Ax A cx c l l w4 HL.out HL.out SX4.out SL4.out)
    rw [decide_eq_true rfl] at HSR
    go_wp2_with fail
    refine HSR.out.mono ?_
    rintro e w5 ⟨rfl, hB⟩
    have B5 := hid (B4.out.trans (hB.mono B4.out.size))
    clear hB
    go_wp2_with fail
    go_ret
    exact ⟨rfl, B5.out⟩
  | some y =>
    rw [hrd] at HRD
    obtain ⟨hye, hyn, hyo⟩ := readRows_some hrd
    have hyl := hid (show y.length ≤ 1000 by omega)
    have HYE := hid hye
    clear hrd hsz hye hyn hyo
    go_wp2_with fail
    refine HRD.out.mono ?_
    rintro e w4 ⟨Ay, cy, rfl, hy1, hy2, hsy, hB⟩
    have B4 := hid (B3.out.trans (hB.mono B3.out.size))
    have SX4 := hid ((SX.out.below hB).more hB.size)
    have SL4 := hid ((hs.below B4.out).more B4.out.size)
    have SY := hid hsy
    clear hB HRD B3 SX hy1 hy2 hsy
    have HSR := hid (samerows_any Ax A cx c l l w4 HL.out HL.out SX4.out SL4.out)
    rw [decide_eq_true rfl] at HSR
    go_wp2_with fail
    refine HSR.out.mono ?_
    rintro e w5 ⟨rfl, hB⟩
    have B5 := hid (B4.out.trans (hB.mono B4.out.size))
    have HTB := hid (tbytes_any Ay cy y w5 (by have := hyl.out; omega) ((SY.out.below hB).more hB.size) (he.below B5.out))
    clear hB
    go_wp2_with fail
    refine HTB.out.mono ?_
    rintro e w6 ⟨rfl, hB⟩
    have B6 := hid (B5.out.trans (hB.mono B5.out.size))
    clear hB
    have hc : ((bs (encRows y)).toList == s.toList) = true := by rw [HYE.out, bs_of]; simp
    go_wp2_with fail
    go_ret
    exact ⟨rfl, B6.out⟩
end Go.Proofs.YtfpehakllnkaeaaDoor
namespace Go.Proofs.YtfpehakllnkaeaaDoor
open Go.RowKit Go.IntWalk Go.ChangeShapes Go.WideShapes Go.ChangeAt Go.WideElems

theorem own : ownKnob Tryd.prog.godebug = none := by kernel_rfl
theorem laidOut : laidOutB Tryd.prog = true := by kernel_rfl
def laid5 : List (String × DataW Unit) := [("math/bits.deBruijn32tab", Rows.laid_math_bits_deBruijn32tab), ("math/bits.deBruijn64tab", Rows.laid_math_bits_deBruijn64tab), ("internal/strconv.uint64pow10", Rows.laid_internal_strconv_uint64pow10), ("strconv.ErrRange", Rows.laid_strconv_ErrRange), ("strconv.ErrSyntax", Rows.laid_strconv_ErrSyntax)]

theorem starE : ("*errors.errorString" : String) = "*" ++ "errors.errorString" := by decide
theorem rowE (u : TypeId) (h : Tryd.prog.typeName? 3 u = some "*errors.errorString") : u = 186 :=
  typeName_ptr_named (nm := "errors.errorString") (by rw [← starE]; kernel_rfl) (by kernel_rfl) (by decide) u (by rw [← starE]; exact h)
theorem env_of {W : World} (h : laidMetH Tryd.prog laid5 W) : Env W := by
  rw [MakeChecks.laidMetH_plain _ _ _ (by kernel_rfl)] at h
  have h3 := h.tail.tail
  have hs := h3.tail
  have ht := hs.tail
  refine ⟨?_, ?_, ?_⟩
  · exact Lib.tabIs_of_head (g := 3) (t := 179) (e := 152) (n := 20) (by kernel_rfl) (by kernel_rfl) Tryd.underlying179 Tryd.underlying152 (by kernel_rfl) (by kernel_rfl) h3
  · obtain ⟨a, t, h1, _⟩ := laid_sentinel ht (g := 1) (ti := 73) (te := 188) (ts := 9) (by kernel_rfl) (by kernel_rfl) Tryd.underlying73 rowE Tryd.underlying186 Tryd.underlying188 rfl rfl Tryd.underlying9 (by kernel_rfl) (by kernel_rfl)
    exact ⟨_, _, h1⟩
  · obtain ⟨a, t, h1, _⟩ := laid_sentinel hs (g := 2) (ti := 73) (te := 188) (ts := 9) (by kernel_rfl) (by kernel_rfl) Tryd.underlying73 rowE Tryd.underlying186 Tryd.underlying188 rfl rfl Tryd.underlying9 (by kernel_rfl) (by kernel_rfl)
    exact ⟨_, _, h1⟩

theorem opens_str {P : Program} {t : TypeId} (ht : P.underlying t = some .string) (hc : P.cellsOf t = 1) : Opens P t ByteArray := by
  refine ⟨hc, fun h => ?_⟩
  obtain ⟨s, rfl, _, hs⟩ := DataW.trod_string ht h
  exact ⟨s, rfl, hs⟩
set_option maxRecDepth 100000 in
theorem opInt : Opens Tryd.prog 3 Int := opens_int Tryd.underlying3 (by kernel_rfl)
set_option maxRecDepth 100000 in
theorem opStr : Opens Tryd.prog 9 ByteArray := opens_str Tryd.underlying9 (by kernel_rfl)
set_option maxRecDepth 100000 in
theorem opInts : Opens Tryd.prog 91 (List Int) := opens_list Tryd.underlying91 (by kernel_rfl) (by decide) opInt
theorem arg_str {P : Program} {t : TypeId} {H : Type} {enc : TypeId × Value → H} {W : World} {base b0 : Nat} {sp : Nat → Bool} {hd : Bool} {v : Value} {d : DataW H} {p : List MemPlace} (ht : P.underlying t = some .string)
    (hv : Value.okWide P W .any b0 t v) (h : DataW.Trod enc P W base sp hd t v d p) : ∃ s, v = .string s ∧ s.size ≤ maxLen := by
  obtain ⟨n, rfl⟩ := okWide_string ht hv
  obtain ⟨fuel, hf⟩ := h
  obtain ⟨m, hm, _, hw⟩ := DataW.trod_string ht hf
  simp only [Value.cells, List.cons.injEq, and_true, Value.string.injEq] at hm
  exact ⟨n, rfl, by rw [hm]; exact hw⟩
/-- A LAW's end: it returned true, and nothing that was there has changed. -/
theorem post_law {C : Checked} {f : FuncId} {fn : Func} {s : ChangeSpec} {tb : TypeId} (H : Type) (enc : TypeId × Value → H) (hlaid : laidOutB C.prog = true)
    (hres : fn.resultTypes = #[tb]) (hub : C.prog.underlying tb = some .bool) (hvars : s.vars = []) (hread : ∀ t ∈ fn.params.toList, C.prog.readableRec t = true ∧ t < C.prog.types.size)
    (hs : ∀ ds : List (DataW H), ds.length = fn.params.toList.length → s.fn H ds = { results := [.lit (.bool true)], args := ds })
    {W : World} {args : Array Value} {ds gs : List (DataW H)} {before : List MemPlace} (hW : DataW.Whole enc C.prog fn.params.toList s.vars false W args.toList ds gs before)
    (contract : ∀ p, DataW.TrodAll enc C.prog W 0 (fun _ => true) true fn.params.toList args.toList ds p → Calls C.prog f args W fun e W' => e = .returned (.bool true) ∧ Below W.heap.size W W') :
    Calls C.prog f args W fun e W' => ∃ v, e = .returned v ∧ s.post enc C.prog fn false true false false W args v W' := by
  have hW' := hW
  obtain ⟨p, q, hA, hV, rfl, hfz, hnd⟩ := hW
  rw [hvars] at hV
  obtain ⟨rfl, rfl⟩ := trodVars_none hV
  have hlen := trodAll_length _ _ _ _ hA
  refine (contract p hA).mono fun e W' ⟨he, hb⟩ => ⟨_, he, ?_⟩
  have hlt : ∀ x ∈ p ++ [], x.block < W.heap.size := fun x hx => hW'.lt x hx
  rw [List.append_nil] at hlt
  refine ⟨ds, [], p ++ [], [], p, [], hW', ?_, ?_, ?_, ?_, fun h => by cases h⟩
  · rw [List.append_nil, hs ds hlen, hres]
    exact ⟨[], [], ⟨1, by simp [DataW.trod, Value.cells, hub]⟩, rfl, rfl⟩
  · rw [List.append_nil, hs ds hlen]
    exact trodAll_stays hlaid _ _ _ _ hread hA (fun x hx => hb.same (hlt x hx)) (fun x hx => by simpa using hlt x hx)
  · rw [hvars, List.append_nil, hs ds hlen]; rfl
  · exact World.keptBut_mono (fun x hx => ⟨hx, .inr (.inl (by simpa using hx))⟩) (hb.frame (· ∈ p ++ []))
theorem door_met (os : Os) (args : Array Value) : laidMetH Tryd.prog laid5 ((World.doorLaid Tryd.prog 62 os).forCall (fun _ _ => 0) ⟨#[], args, []⟩).memory :=
  laidMetH_of_parts3 (fuel := 8) (laidMet_of_run' 8 (by kernel_rfl) (by kernel_rfl)) (by kernel_rfl) (by kernel_rfl)
theorem met_heap {w w' : World} (hh : w.heap = w'.heap) (h : laidMetH Tryd.prog laid5 w) : laidMetH Tryd.prog laid5 w' := h.of_heap hh
end Go.Proofs.YtfpehakllnkaeaaDoor
namespace Go.Proofs.YtfpehakllnkaeaaDoor
open Go.RowKit Go.IntWalk Go.ChangeShapes Go.WideShapes

set_option maxRecDepth 100000 in
theorem opRow : Opens Tryd.prog 87 Row := opens_struct Tryd.underlying87 (by kernel_rfl) (opensFs_cons opInt rfl (opensFs_cons opInt rfl (opensFs_one opInt rfl)))
set_option maxRecDepth 100000 in
theorem opRows : Opens Tryd.prog 35 (List Row) := opens_list Tryd.underlying35 (by kernel_rfl) (by decide) opRow
end Go.Proofs.YtfpehakllnkaeaaDoor
namespace Go.Proofs.YtfpehakllnkaeaaDoor
open Go.RowKit Go.IntWalk Go.ChangeShapes Go.WideShapes Go.ChangeAt Go.WideElems

theorem tableBack_read : ∀ t ∈ Tryd.f4.params.toList, Tryd.prog.readableRec t = true ∧ t < Tryd.prog.types.size := by
  intro t ht
  have : t = 35 ∨ t = 9 := by
    rw [Tryd.params4] at ht; simpa using ht
  rcases this with rfl | rfl
  · exact ⟨by kernel_rfl, of_decide_eq_true (by kernel_rfl)⟩
  · exact ⟨by kernel_rfl, of_decide_eq_true (by kernel_rfl)⟩

set_option maxRecDepth 100000 in
theorem tableBack_lifted (os : Os) (started : os.Started) (H : Type) (enc : TypeId × Value → H) :
    ReturnsInHanded {} Tryd.checked os 4 .any (fun w args => (Rows.tableBackSpec.pre enc Tryd.prog Tryd.f4 [] false w args ∧ laidMetH Tryd.prog laid5 w) ∧ sizedMet enc Tryd.prog Tryd.f4 (OpenSpec.ofChange Rows.tableBackSpec) false w args)
      (Rows.tableBackSpec.post enc Tryd.prog Tryd.f4 false true false false) := by
  refine returnsInHanded_of_change_and (C := Tryd.checked) (X := fun w _ => laidMetH Tryd.prog laid5 w) (fun w w' args hh h => met_heap (w := w) (w' := w') hh h) own started (by kernel_rfl) Tryd.func4
    (ChangeSpec.witness_shaped (enc := enc) (C := Tryd.checked) (os := os) (X := fun w _ => laidMetH Tryd.prog laid5 w) false (World.doorLaid Tryd.prog 62 os) #[.slice none 0 0, .string ⟨#[]⟩] 8 rfl (World.shaped_of_RefB (by kernel_rfl) (by kernel_rfl)) (by kernel_rfl) (by kernel_rfl) (by kernel_rfl) (door_met os _)) ?_
  intro W base args ds gs before hval0 hW _ _ hL _
  refine post_law (C := Tryd.checked) (f := 4) (fn := Tryd.f4) (s := Rows.tableBackSpec) (tb := 4) H enc laidOut rfl Tryd.underlying4 rfl tableBack_read (by
      intro ds hd
      match ds, hd with
      | [d0, d1], _ => rfl) hW ?_
  intro p hA
  have hval : ∀ (j : Nat) t v, Tryd.f4.params[j]? = some t → args[j]? = some v → Value.okWide Tryd.prog W .any base t v := hval0
  have hA : DataW.TrodAll enc Tryd.prog W 0 (fun _ => true) true Tryd.f4.params.toList args.toList ds p := hA
  rw [Tryd.params4] at hA hval
  obtain ⟨v0, v1, d0, d1, p0_, p1_, rfl, rfl, rfl, h0, h1⟩ := trodAll_two hA
  obtain ⟨A0, c0, l0, rfl, p01, p02, p03⟩ := arg_slice Tryd.underlying35 opRows (hval 0 _ _ rfl rfl) h0
  obtain ⟨s1, rfl, p1⟩ := arg_str Tryd.underlying9 (hval 1 _ _ rfl rfl) h1
  exact tback_any A0 c0 l0 s1 W (Nat.le_trans p01 p02) p03 (env_of hL)

theorem tableBack_said : Rows.TableBackSaid :=
  OpenClaim.holds_of_wide 4 Tryd.f4 rfl rfl rfl rfl rfl rfl rfl ⟨rfl, rfl, rfl, rfl, rfl⟩ rfl rfl rfl rfl rfl (by kernel_rfl) Tryd.func4 (by kernel_rfl)
    (of_decide_eq_true (by kernel_rfl)) (by unfold Func.isWrapper; first | (rw [if_pos (by decide +kernel)]; kernel_rfl) | (rw [if_neg (by decide +kernel)]; exact ⟨rfl, rfl⟩))
    (fun os started H enc _ => tableBack_lifted os started H enc)
theorem tableBack_plain (f : FuncId) (fn : Func) (hf : Tryd.pinned.checked.prog.funcNamed "taquin/taquinlaw31.TableBack" = some f) (hfn : Tryd.pinned.checked.prog.funcs[f]? = some fn) :
    true = Tryd.pinned.checked.prog.looks [] ∧ ∀ (j : Nat) t, fn.params[j]? = some t → Tryd.pinned.checked.prog.wantsStandIn t = false := by
  obtain rfl : f = 4 := Option.some.inj ((show Tryd.prog.funcNamed "taquin/taquinlaw31.TableBack" = some 4 by kernel_rfl).symm.trans hf) |>.symm
  obtain rfl : fn = Tryd.f4 := (Option.some.inj (Tryd.func4.symm.trans hfn)).symm
  refine ⟨by kernel_rfl, fun j t ht => ?_⟩
  rw [Tryd.params4] at ht
  have this : t = 35 ∨ t = 9 := by simpa using Array.mem_of_getElem? ht
  rcases this with rfl | rfl
  · exact (show Tryd.prog.wantsStandIn 35 = false by kernel_rfl)
  · exact (show Tryd.prog.wantsStandIn 9 = false by kernel_rfl)
theorem tableBack_holds : Rows.TableBackCardSaid :=
  Claim7.holds_tied_plain_at .later [] _ _ _ _ tableBack_said (fun _ h => by cases h) (by kernel_rfl) (fun _ h => by cases h) tableBack_row_tie rfl ⟨rfl, rfl⟩ (by kernel_rfl) rfl tableBack_plain (by kernel_rfl)
#print axioms tableBack_holds
end Go.Proofs.YtfpehakllnkaeaaDoor
