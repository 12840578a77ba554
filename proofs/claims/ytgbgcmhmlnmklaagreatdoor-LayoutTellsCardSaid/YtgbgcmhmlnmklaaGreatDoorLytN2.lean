
/- Layouts, shifts: the walk of shifts. -/
import Derived.Test.YtgbgcmhmlnmklaaGreatDoorLytN0
import Derived.Test.YtgbgcmhmlnmklaaGreatDoorLytN1
import Derived.Shelf.SlSortCmp.WholeK
import Derived.Ground.SlsfProg
import Derived.Shelf.SlSortCmp.NoneTotal
import Derived.Ground.Names2Prog
import Derived.Shelf.Slices.SearchI
import Derived.Shelf.Slices.Empties
import Derived.Test.YtgbgcmhmlnmklaaGreatDoorFloF
import Derived.Test.YtgbgcmhmlnmklaaGreatDoorLayF
set_option linter.unusedSimpArgs false
set_option linter.unusedVariables false
namespace Go.Proofs.YtgbgcmhmlnmklaaGreatDoor
open Go.RowKit Go.IntWalk

def bRK : RK Bool where
  e := 4
  t := 25
  size := 1
  bytes := 1
  z := .bool false
  cs x := [.bool x]
  ok x := True
  und := Tryz.underlying25
  info := by kernel_rfl
  zcs := rfl
  pos := by omega
  small := by omega
  len _ := rfl
  one x v hv := by simp at hv; rcases hv with rfl; rfl
  rsz := rfl
  rep w B x h := rfl
  inv w B c x h := ⟨h, trivial⟩
set_option maxRecDepth 100000 in
set_option maxHeartbeats 1000000 in
theorem bclone_any (b off : Nat) (c : Nat) (l : List Bool) (w : World) (hl : l.length ≤ 65536) (hs : SlR w w.heap.size (some ⟨b, off, none⟩) l) :
    Calls Tryz.prog 42 #[.slice (some ⟨b, off, none⟩) l.length c] w fun e w' => ∃ v, e = .returned v ∧ bRK.Own w' w.heap.size v l ∧ Below w.heap.size w w' := by
  have hn1 := fun W => Lib.run_eql_slice_nil (P := Tryz.prog) W 25 4 (some ⟨b, off, none⟩) l.length c 0 0 Tryz.underlying25
  simp only [Option.isNone_some] at hn1
  have HS := hid hs
  have hown : Hid (bRK.Own (w.alloc (Obj.cells #[] 4)) w.heap.size (.slice (some ⟨w.heap.size, 0, none⟩) 0 0) []) := RK.Own.fresh (l := []) (Blk.new w _ _) (Nat.le_refl _) (by simp)
  have hl9 := hid (show ([] : List Bool).length + l.length ≤ 100000000 by simp; omega)
  clear hs
  go_enter Tryz.func42, Tryz.ntmps42
  go_wp2_with (at_builtin; refine bRK.appL _ rfl (.tmp 5) (.tmp 6) rfl rfl hown.out (ys := l) (c := c) rfl (HS.out.alloc (Nat.le_refl _) _) hl9.out (by simp) ?_; intro A1 c1 w1 ho1 hg1)
  clear hn1
  go_wp2
  go_ret
  refine ⟨_, rfl, by simpa using ho1, ?_⟩
  refine ((Below.refl _ w).alloc (Nat.le_refl _) _).grown hg1 (by simp) ?_
  intro k hk
  have hk' : some w.heap.size = some k := hk
  injection hk' with e
  omega
/-- A shift that is possible: what it does. -/
def doL (l : List Bool) (a b : Nat) : List Bool := (l.set a false).set b true
def doT (t : Int) (a b : Nat) : Int := if t = a then b else t
set_option maxRecDepth 100000 in
set_option maxHeartbeats 4000000 in
theorem do_any (A : Option Addr) (c : Nat) (l : List Bool) (t : Int) (a b : Nat) (w : World) (hl : l.length ≤ 24) (hs : SlR w w.heap.size A l) (ha : a < l.length) (hb : b < l.length) (hla : l[a] = true) (hlb : l[b] = false) :
    Calls Tryz.prog 17 #[.agg #[.slice A l.length c, .int .i64 t], .agg #[.int .i64 (a : Nat), .int .i64 (b : Nat)]] w fun e w' => ∃ A' c', e = .returned (.tuple #[.agg #[.slice A' l.length c', .int .i64 (doT t a b)], .int .i64 0]) ∧ l.length ≤ c' ∧ c' ≤ maxLen ∧ SlR w' w'.heap.size A' (doL l a b) ∧ Below w.heap.size w w' := by
  obtain ⟨bl, ol, rfl, hbl, hca⟩ := hs.bool ha
  have hcb := hs.bool_at hb
  rw [hla] at hca
  rw [hlb] at hcb
  obtain ⟨w1, hw1⟩ : ∃ w1, w1 = (((w.alloc (Obj.cells #[.slice (some ⟨bl, ol, none⟩) l.length c, .int .i64 t] 27)).alloc (Obj.cells #[.int .i64 (a : Nat), .int .i64 (b : Nat)] 29)).alloc (Obj.cells #[.slice none 0 0, .int .i64 0] 27)) := ⟨_, rfl⟩
  have B1 := hid (show Below w.heap.size w w1 by rw [hw1]; (repeat (first | exact Below.refl _ _ | assumption | refine below_drewN ?_ _ | refine Below.drew ?_ | refine Below.alloc ?_ (by (try simp); (try omega)) _ | refine Below.setCell ?_ (by (try simp); (try omega)) _)))
  have hsz := hid (show w1.heap.size = w.heap.size + 1 + 1 + 1 by rw [hw1]; simp)
  have X1 := hid (show Blk w1 w.heap.size 27 #[.slice (some ⟨bl, ol, none⟩) l.length c, .int .i64 t] by rw [hw1]; exact ((Blk.new w _ _).alloc _).alloc _)
  have X2 := hid (show Blk w1 (w.heap.size + 1) 29 #[.int .i64 (a : Nat), .int .i64 (b : Nat)] by rw [hw1]; exact (Blk.new_at (by simp)).alloc _)
  have X3 := hid (show Blk w1 (w.heap.size + 1 + 1) 27 #[.slice none 0 0, .int .i64 0] by rw [hw1]; exact Blk.new_at (by simp))
  have x0 := X1.out.cell 0; have x1 := X1.out.cell 1; have y0 := X2.out.cell 0; have y1 := X2.out.cell 1; have xz := X1.out.lt; have yz := X2.out.lt
  simp at x0 x1 y0 y1
  have ca := (bcell B1.out _ _ hbl).trans hca
  have cb := (bcell B1.out _ _ hbl).trans hcb
  have bz : bl < w1.heap.size := by have := B1.out.size; omega
  have hai : (a : Int) < l.length := by omega
  have hbi : (b : Int) < l.length := by omega
  have HS := hid ((hs.below B1.out).more B1.out.size)
  have HCL := hid (bclone_any bl ol c l w1 (by omega) HS.out)
  have hab : a ≠ b := fun e => by subst e; rw [hla] at hlb; cases hlb
  clear hs hca hcb hla hlb
  go_enter Tryz.func17, Tryz.ntmps17
  go_upto_region 1 with fail
  rw [← hw1]
  clear hw1
  go_upto_region 6 with fail
  go_wp2_with fail
  refine HCL.out.mono ?_
  rintro e w2 ⟨v, rfl, ho, hB⟩
  obtain ⟨g, cap, cur, hv, hg, -, hcc, hcm, -⟩ := own_cell ho (show 0 < l.length by omega)
  subst hv
  have B12 := hid hB
  have HO := hid (show bRK.Own w2 w1.heap.size (.slice (some ⟨g, 0, none⟩) l.length cap) l from ho)
  have X1b := hid (X1.out.below hB X1.out.lt)
  have X2b := hid (X2.out.below hB X2.out.lt)
  have X3b := hid (X3.out.below hB X3.out.lt)
  have hgt := hid hg
  have hcap := hid (And.intro hcc hcm)
  clear ho hB HCL x0 x1 y0 y1 xz yz ca cb bz hg hcc hcm HS X1 X2 X3
  have x0 := X1b.out.cell 0; have x1 := X1b.out.cell 1; have y0 := X2b.out.cell 0; have y1 := X2b.out.cell 1; have xz := X1b.out.lt; have yz := X2b.out.lt; have xf := X1b.out.frozen
  simp at x0 x1 y0 y1
  go_upto_region 7 with fail
  have X1c := hid (show Blk (w2.setCell ⟨w.heap.size, 0, none⟩ (.slice (some ⟨g, 0, none⟩) l.length cap)) w.heap.size 27 #[.slice (some ⟨g, 0, none⟩) l.length cap, .int .i64 t] by have := X1b.out.set_ 0 (.slice (some ⟨g, 0, none⟩) l.length cap); simpa using this)
  have X2c := hid (X2b.out.far (p := ⟨w.heap.size, 0, none⟩) (by simp) (.slice (some ⟨g, 0, none⟩) l.length cap))
  have X3c := hid (X3b.out.far (p := ⟨w.heap.size, 0, none⟩) (by simp; omega) (.slice (some ⟨g, 0, none⟩) l.length cap))
  have HOc := hid (show bRK.Own (w2.setCell ⟨w.heap.size, 0, none⟩ (.slice (some ⟨g, 0, none⟩) l.length cap)) w1.heap.size (.slice (some ⟨g, 0, none⟩) l.length cap) l from own_kt (ts := [4]) HO.out (KT.of_set X1b.out (by decide) _) (by decide))
  have Bc := hid (show Below w.heap.size w (w2.setCell ⟨w.heap.size, 0, none⟩ (.slice (some ⟨g, 0, none⟩) l.length cap)) from (B1.out.trans (B12.out.mono B1.out.size)).setCell (by simp) _)
  clear x0 x1 y0 y1 xz yz xf X1b X2b X3b HO B12
  generalize (w2.setCell ⟨w.heap.size, 0, none⟩ (.slice (some ⟨g, 0, none⟩) l.length cap)) = w7 at *
  have x0 := X1c.out.cell 0; have x1 := X1c.out.cell 1; have y0 := X2c.out.cell 0; have y1 := X2c.out.cell 1
  have xz : w.heap.size < w1.heap.size := by have := hsz.out; omega
  have yz : w.heap.size + 1 < w1.heap.size := by have := hsz.out; omega
  simp at x0 x1 y0 y1
  have HSF := hid (fun (wq : World) (hq : Below w1.heap.size w7 wq) => And.intro ((bcell hq _ _ xz).trans x0) (And.intro ((bcell hq _ _ xz).trans x1) (And.intro ((bcell hq _ _ yz).trans y0) ((bcell hq _ _ yz).trans y1))))
  have BD := hid ((Below.refl w1.heap.size w7).drew)
  have HOd := hid HOc.out.drew
  refine wpIn_wide.1 (wpIn_region_S (n := 0) (fun wq => Below w1.heap.size w7 wq) [] (by kernel_rfl) BD.out (fun hHeld => ?_))
  generalize w7.drew = wd at *
  refine wpAnyG_pure 0 (v := ?_) (fun _ => trivial) (by simp only [List.getElem?_toArray, List.getElem?_cons_succ, List.getElem?_cons_zero]; rfl) (by kernel_rfl) (fun _ _ _ _ _ h => h) ⟨(by rfl), (by intro c h; cases h), ?_⟩ hHeld ?_
  rotate_left
  focus (intro wS hSw; (try replace hSw := HSF.out wS hSw); (try dsimp only at hSw); go_simp; (try with_reducible rfl))
  (try simp only [Act.put, List.setIfInBounds_toArray, List.set_cons_zero, List.set_cons_succ])
  refine wpAnyG_take 1 (v := ?_) (fun _ => trivial) (by simp only [List.getElem?_toArray, List.getElem?_cons_succ, List.getElem?_cons_zero]; rfl) (by kernel_rfl) (fun _ _ _ _ _ h => h) ⟨(by rfl), (by intro c h; cases h), ?_⟩ hHeld ?_
  rotate_left
  focus (intro wS hSw; (try replace hSw := HSF.out wS hSw); (try dsimp only at hSw); go_simp; (try with_reducible rfl))
  (try simp only [Act.put, List.setIfInBounds_toArray, List.set_cons_zero, List.set_cons_succ])
  refine wpAnyG_pure 2 (v := ?_) (fun _ => trivial) (by simp only [List.getElem?_toArray, List.getElem?_cons_succ, List.getElem?_cons_zero]; rfl) (by kernel_rfl) (fun _ _ _ _ _ h => h) ⟨(by rfl), (by intro c h; cases h), ?_⟩ hHeld ?_
  rotate_left
  focus (intro wS hSw; (try replace hSw := HSF.out wS hSw); (try dsimp only at hSw); go_simp; (try with_reducible rfl))
  (try simp only [Act.put, List.setIfInBounds_toArray, List.set_cons_zero, List.set_cons_succ])
  refine wpAnyG_take 3 (v := ?_) (fun _ => trivial) (by simp only [List.getElem?_toArray, List.getElem?_cons_succ, List.getElem?_cons_zero]; rfl) (by kernel_rfl) (fun _ _ _ _ _ h => h) ⟨(by rfl), (by intro c h; cases h), ?_⟩ hHeld ?_
  rotate_left
  focus (intro wS hSw; (try replace hSw := HSF.out wS hSw); (try dsimp only at hSw); go_simp; (try with_reducible rfl))
  (try simp only [Act.put, List.setIfInBounds_toArray, List.set_cons_zero, List.set_cons_succ])
  refine wpAnyG_pure 4 (v := ?_) (fun _ => trivial) (by simp only [List.getElem?_toArray, List.getElem?_cons_succ, List.getElem?_cons_zero]; rfl) (by kernel_rfl) (fun _ _ _ _ _ h => h) ⟨(by rfl), (by intro c h; cases h), ?_⟩ hHeld ?_
  rotate_left
  focus (intro wS hSw; (try replace hSw := HSF.out wS hSw); (try dsimp only at hSw); go_simp; (try with_reducible rfl))
  (try simp only [Act.put, List.setIfInBounds_toArray, List.set_cons_zero, List.set_cons_succ])
  refine wpAnyG_take 5 (v := ?_) (fun _ => trivial) (by simp only [List.getElem?_toArray, List.getElem?_cons_succ, List.getElem?_cons_zero]; rfl) (by kernel_rfl) (fun _ _ _ _ _ h => h) ⟨(by rfl), (by intro c h; cases h), ?_⟩ hHeld ?_
  rotate_left
  focus (intro wS hSw; (try replace hSw := HSF.out wS hSw); (try dsimp only at hSw); go_simp; (try with_reducible rfl))
  (try simp only [Act.put, List.setIfInBounds_toArray, List.set_cons_zero, List.set_cons_succ])
  refine wpAnyG_pure 6 (v := ?_) (fun _ => trivial) (by simp only [List.getElem?_toArray, List.getElem?_cons_succ, List.getElem?_cons_zero]; rfl) (by kernel_rfl) (fun _ _ _ _ _ h => h) ⟨(by rfl), (by intro c h; cases h), ?_⟩ hHeld ?_
  rotate_left
  focus (intro wS hSw; (try replace hSw := HSF.out wS hSw); (try dsimp only at hSw); go_simp; (try with_reducible rfl))
  (try simp only [Act.put, List.setIfInBounds_toArray, List.set_cons_zero, List.set_cons_succ])
  refine wpAnyG_take 7 (v := ?_) (fun _ => trivial) (by simp only [List.getElem?_toArray, List.getElem?_cons_succ, List.getElem?_cons_zero]; rfl) (by kernel_rfl) (fun _ _ _ _ _ h => h) ⟨(by rfl), (by intro c h; cases h), ?_⟩ hHeld ?_
  rotate_left
  focus (intro wS hSw; (try replace hSw := HSF.out wS hSw); (try dsimp only at hSw); go_simp; (try with_reducible rfl))
  (try simp only [Act.put, List.setIfInBounds_toArray, List.set_cons_zero, List.set_cons_succ])
  refine wpAnyG_pure 8 (v := ?_) (fun _ => trivial) (by simp only [List.getElem?_toArray, List.getElem?_cons_succ, List.getElem?_cons_zero]; rfl) (by kernel_rfl) (fun _ _ _ _ _ h => h) ⟨(by rfl), (by intro c h; cases h), ?_⟩ hHeld ?_
  rotate_left
  focus (intro wS hSw; (try replace hSw := HSF.out wS hSw); (try dsimp only at hSw); go_simp; (try with_reducible rfl))
  (try simp only [Act.put, List.setIfInBounds_toArray, List.set_cons_zero, List.set_cons_succ])
  obtain ⟨gz, -, gc, gf⟩ := HOd.out.at_ ha
  have gc0 := gc 0 (show 0 < 1 by omega)
  rw [show bRK.size = 1 from rfl, Nat.mul_one, Nat.add_zero] at gc0
  have gc1 : wd.cell? ⟨g, a, none⟩ = some (.bool l[a]) := gc0
  have gf1 := gf a
  clear gc gc0 gf
  refine wpAnyS_ready [9] (by kernel_rfl) (by simp) (AllReadyS.cons (by simp only [List.getElem?_toArray, List.getElem?_cons_succ, List.getElem?_cons_zero]; rfl) rfl (fun K hK => ?_) AllReadyS.nil)
  go_simp
  have BA := hid (BD.out.setCell (p := ⟨g, a, none⟩) hgt.out (.bool false))
  have HOa := hid (show bRK.Own (wd.setCell ⟨g, a, none⟩ (.bool false)) w1.heap.size (.slice (some ⟨g, 0, none⟩) l.length cap) (l.set a false) from by
    have := HOd.out.set_ ha (j := 0) (show 0 < 1 by omega) (y := false) (u := .bool false) rfl
    rw [show bRK.size = 1 from rfl, Nat.mul_one, Nat.add_zero] at this
    exact this)
  refine hK.out _ _ BA.out ?_
  (try simp only [Act.put, List.setIfInBounds_toArray, List.set_cons_zero, List.set_cons_succ])
  clear hK K hHeld gz gc1 gf1 HOd BD
  generalize (wd.setCell ⟨g, a, none⟩ (.bool false)) = wa at *
  have hHeld := BA.out
  refine wpAnyG_pure 10 (v := ?_) (fun _ => trivial) (by simp only [List.getElem?_toArray, List.getElem?_cons_succ, List.getElem?_cons_zero]; rfl) (by kernel_rfl) (fun _ _ _ _ _ h => h) ⟨(by rfl), (by intro c h; cases h), ?_⟩ hHeld ?_
  rotate_left
  focus (intro wS hSw; (try replace hSw := HSF.out wS hSw); (try dsimp only at hSw); go_simp; (try with_reducible rfl))
  (try simp only [Act.put, List.setIfInBounds_toArray, List.set_cons_zero, List.set_cons_succ])
  have hbs : b < (l.set a false).length := by rw [List.length_set]; exact hb
  obtain ⟨gz, -, gc, gf⟩ := HOa.out.at_ hbs
  have gc0 := gc 0 (show 0 < 1 by omega)
  rw [show bRK.size = 1 from rfl, Nat.mul_one, Nat.add_zero] at gc0
  have gc1 : wa.cell? ⟨g, b, none⟩ = some (.bool (l.set a false)[b]) := gc0
  have gf1 := gf b
  clear gc gc0 gf
  refine wpAnyS_ready [11] (by kernel_rfl) (by simp) (AllReadyS.cons (by simp only [List.getElem?_toArray, List.getElem?_cons_succ, List.getElem?_cons_zero]; rfl) rfl (fun K hK => ?_) AllReadyS.nil)
  go_simp
  have BB := hid (BA.out.setCell (p := ⟨g, b, none⟩) hgt.out (.bool true))
  have HOb := hid (show bRK.Own (wa.setCell ⟨g, b, none⟩ (.bool true)) w1.heap.size (.slice (some ⟨g, 0, none⟩) l.length cap) (doL l a b) from by
    have := HOa.out.set_ hbs (j := 0) (show 0 < 1 by omega) (y := true) (u := .bool true) rfl
    rw [show bRK.size = 1 from rfl, Nat.mul_one, Nat.add_zero] at this
    exact this)
  refine hK.out _ _ BB.out ?_
  (try simp only [Act.put, List.setIfInBounds_toArray, List.set_cons_zero, List.set_cons_succ])
  clear hK K hHeld gz gc1 gf1 HOa BA hbs
  generalize (wa.setCell ⟨g, b, none⟩ (.bool true)) = wb at *
  refine wpAnyS_done (by kernel_rfl) ?_
  clear HSF x0 x1 y0 y1
  have X1d := hid (X1c.out.below BB.out xz)
  have X2d := hid (X2c.out.below BB.out yz)
  have X3d := hid (X3c.out.below BB.out (by have := hsz.out; omega))
  have x0 := X1d.out.cell 0; have x1 := X1d.out.cell 1; have y0 := X2d.out.cell 0; have y1 := X2d.out.cell 1; have z0 := X3d.out.cell 0; have z1 := X3d.out.cell 1
  have xf := X1d.out.frozen; have zf := X3d.out.frozen; have xz2 := X1d.out.lt; have yz2 := X2d.out.lt; have zz2 := X3d.out.lt
  simp at x0 x1 y0 y1 z0 z1
  have Bb := hid (Bc.out.trans (BB.out.mono (by have := B1.out.size; have := Bc.out.size; omega)))
  by_cases hta : t = a
  · have hdt := hid (show doT t a b = b by unfold doT; rw [if_pos hta])
    subst hta
    have X3w := hid (X3d.out.far (p := ⟨w.heap.size, 1, none⟩) (by simp; omega) (.int .i64 (b : Nat)))
    have Bw := hid (Bb.out.setCell (p := ⟨w.heap.size, 1, none⟩) (by simp) (.int .i64 (b : Nat)))
    have HOw := hid (show bRK.Own (wb.setCell ⟨w.heap.size, 1, none⟩ (.int .i64 (b : Nat))) w1.heap.size (.slice (some ⟨g, 0, none⟩) l.length cap) (doL l a b) from own_kt (ts := [4]) HOb.out (KT.of_set X1d.out (by decide) _) (by decide))
    go_wp2_with fail
    have X3e := hid (show Blk (((wb.setCell ⟨w.heap.size, 1, none⟩ (.int .i64 (b : Nat))).setCell ⟨w.heap.size + 1 + 1, 0, none⟩ (.slice (some ⟨g, 0, none⟩) l.length cap)).setCell ⟨w.heap.size + 1 + 1, 1, none⟩ (.int .i64 (b : Nat))) (w.heap.size + 1 + 1) 27 #[.slice (some ⟨g, 0, none⟩) l.length cap, .int .i64 (b : Nat)] from by
      have := (X3w.out.set_ 0 (.slice (some ⟨g, 0, none⟩) l.length cap)).set_ 1 (.int .i64 (b : Nat))
      simpa using this)
    have BZ := hid (show Below w.heap.size w (((wb.setCell ⟨w.heap.size, 1, none⟩ (.int .i64 (b : Nat))).setCell ⟨w.heap.size + 1 + 1, 0, none⟩ (.slice (some ⟨g, 0, none⟩) l.length cap)).setCell ⟨w.heap.size + 1 + 1, 1, none⟩ (.int .i64 (b : Nat))) from (Bw.out.setCell (by simp; omega) _).setCell (by simp; omega) _)
    have HOz := hid (show bRK.Own (((wb.setCell ⟨w.heap.size, 1, none⟩ (.int .i64 (b : Nat))).setCell ⟨w.heap.size + 1 + 1, 0, none⟩ (.slice (some ⟨g, 0, none⟩) l.length cap)).setCell ⟨w.heap.size + 1 + 1, 1, none⟩ (.int .i64 (b : Nat))) w1.heap.size (.slice (some ⟨g, 0, none⟩) l.length cap) (doL l a b) from own_kt (ts := [4]) (own_kt (ts := [4]) HOw.out (KT.of_set X3w.out (by decide) _) (by decide)) (KT.of_set (X3w.out.set_ 0 _) (by decide) _) (by decide))
    generalize (((wb.setCell ⟨w.heap.size, 1, none⟩ (.int .i64 (b : Nat))).setCell ⟨w.heap.size + 1 + 1, 0, none⟩ (.slice (some ⟨g, 0, none⟩) l.length cap)).setCell ⟨w.heap.size + 1 + 1, 1, none⟩ (.int .i64 (b : Nat))) = wz at *
    have e0 := X3e.out.cell 0; have e1 := X3e.out.cell 1
    simp at e0 e1
    refine bodyPost_ret (v := .tuple #[.agg #[.slice (some ⟨g, 0, none⟩) l.length cap, .int .i64 (b : Nat)], .int .i64 0]) (by simp [results, Tryz.results17, go_sem, e0, e1]) rfl ?_
    obtain ⟨A9, c9, e9, _, _, s9⟩ := HOz.out.slr (fun _ _ => trivial)
    injection e9 with e9
    refine ⟨some ⟨g, 0, none⟩, cap, by rw [hdt.out], hcap.out.1, hcap.out.2, by rw [e9]; exact s9, BZ.out⟩

  · have hdt := hid (show doT t a b = t by unfold doT; rw [if_neg hta])
    have htb : (t == (a : Int)) = false := by simp [hta]
    have X3w := X3d
    have Bw := Bb
    have HOw := HOb
    go_wp2_with fail
    have X3e := hid (show Blk ((wb.setCell ⟨w.heap.size + 1 + 1, 0, none⟩ (.slice (some ⟨g, 0, none⟩) l.length cap)).setCell ⟨w.heap.size + 1 + 1, 1, none⟩ (.int .i64 t)) (w.heap.size + 1 + 1) 27 #[.slice (some ⟨g, 0, none⟩) l.length cap, .int .i64 t] from by
      have := (X3w.out.set_ 0 (.slice (some ⟨g, 0, none⟩) l.length cap)).set_ 1 (.int .i64 t)
      simpa using this)
    have BZ := hid (show Below w.heap.size w ((wb.setCell ⟨w.heap.size + 1 + 1, 0, none⟩ (.slice (some ⟨g, 0, none⟩) l.length cap)).setCell ⟨w.heap.size + 1 + 1, 1, none⟩ (.int .i64 t)) from (Bw.out.setCell (by simp; omega) _).setCell (by simp; omega) _)
    have HOz := hid (show bRK.Own ((wb.setCell ⟨w.heap.size + 1 + 1, 0, none⟩ (.slice (some ⟨g, 0, none⟩) l.length cap)).setCell ⟨w.heap.size + 1 + 1, 1, none⟩ (.int .i64 t)) w1.heap.size (.slice (some ⟨g, 0, none⟩) l.length cap) (doL l a b) from own_kt (ts := [4]) (own_kt (ts := [4]) HOw.out (KT.of_set X3w.out (by decide) _) (by decide)) (KT.of_set (X3w.out.set_ 0 _) (by decide) _) (by decide))
    generalize ((wb.setCell ⟨w.heap.size + 1 + 1, 0, none⟩ (.slice (some ⟨g, 0, none⟩) l.length cap)).setCell ⟨w.heap.size + 1 + 1, 1, none⟩ (.int .i64 t)) = wz at *
    have e0 := X3e.out.cell 0; have e1 := X3e.out.cell 1
    simp at e0 e1
    refine bodyPost_ret (v := .tuple #[.agg #[.slice (some ⟨g, 0, none⟩) l.length cap, .int .i64 t], .int .i64 0]) (by simp [results, Tryz.results17, go_sem, e0, e1]) rfl ?_
    obtain ⟨A9, c9, e9, _, _, s9⟩ := HOz.out.slr (fun _ _ => trivial)
    injection e9 with e9
    refine ⟨some ⟨g, 0, none⟩, cap, by rw [hdt.out], hcap.out.1, hcap.out.2, by rw [e9]; exact s9, BZ.out⟩

end Go.Proofs.YtgbgcmhmlnmklaaGreatDoor
namespace Go.Proofs.YtgbgcmhmlnmklaaGreatDoor
open Go.RowKit Go.IntWalk

set_option maxRecDepth 100000 in
set_option maxHeartbeats 4000000 in
theorem do_any_r (A : Option Addr) (c : Nat) (l : List Bool) (t : Int) (a b : Nat) (w : World) (hl : l.length ≤ 24) (hs : SlR w w.heap.size A l) (ha : a < l.length) (hb : b < l.length) (hla : l[a] = true) (hlb : l[b] = false) :
    Calls Tryz.prog 18 #[.agg #[.slice A l.length c, .int .i64 t], .agg #[.int .i64 (a : Nat), .int .i64 (b : Nat)]] w fun e w' => ∃ A' c', e = .returned (.tuple #[.agg #[.slice A' l.length c', .int .i64 (doT t a b)], .int .i64 0]) ∧ l.length ≤ c' ∧ c' ≤ maxLen ∧ SlR w' w'.heap.size A' (doL l a b) ∧ Below w.heap.size w w' := by
  obtain ⟨bl, ol, rfl, hbl, hca⟩ := hs.bool ha
  have hcb := hs.bool_at hb
  rw [hla] at hca
  rw [hlb] at hcb
  obtain ⟨w1, hw1⟩ : ∃ w1, w1 = (((w.alloc (Obj.cells #[.slice (some ⟨bl, ol, none⟩) l.length c, .int .i64 t] 27)).alloc (Obj.cells #[.int .i64 (a : Nat), .int .i64 (b : Nat)] 29)).alloc (Obj.cells #[.slice none 0 0, .int .i64 0] 27)) := ⟨_, rfl⟩
  have B1 := hid (show Below w.heap.size w w1 by rw [hw1]; (repeat (first | exact Below.refl _ _ | assumption | refine below_drewN ?_ _ | refine Below.drew ?_ | refine Below.alloc ?_ (by (try simp); (try omega)) _ | refine Below.setCell ?_ (by (try simp); (try omega)) _)))
  have hsz := hid (show w1.heap.size = w.heap.size + 1 + 1 + 1 by rw [hw1]; simp)
  have X1 := hid (show Blk w1 w.heap.size 27 #[.slice (some ⟨bl, ol, none⟩) l.length c, .int .i64 t] by rw [hw1]; exact ((Blk.new w _ _).alloc _).alloc _)
  have X2 := hid (show Blk w1 (w.heap.size + 1) 29 #[.int .i64 (a : Nat), .int .i64 (b : Nat)] by rw [hw1]; exact (Blk.new_at (by simp)).alloc _)
  have X3 := hid (show Blk w1 (w.heap.size + 1 + 1) 27 #[.slice none 0 0, .int .i64 0] by rw [hw1]; exact Blk.new_at (by simp))
  have x0 := X1.out.cell 0; have x1 := X1.out.cell 1; have y0 := X2.out.cell 0; have y1 := X2.out.cell 1; have xz := X1.out.lt; have yz := X2.out.lt
  simp at x0 x1 y0 y1
  have ca := (bcell B1.out _ _ hbl).trans hca
  have cb := (bcell B1.out _ _ hbl).trans hcb
  have bz : bl < w1.heap.size := by have := B1.out.size; omega
  have hai : (a : Int) < l.length := by omega
  have hbi : (b : Int) < l.length := by omega
  have HS := hid ((hs.below B1.out).more B1.out.size)
  have hab : a ≠ b := fun e => by subst e; rw [hla] at hlb; cases hlb
  have hl9 := hid (show ([] : List Bool).length + l.length ≤ 100000000 by simp; omega)
  clear hs hca hcb hla hlb
  go_enter Tryz.func18, Tryz.ntmps18
  go_upto_region 1 with fail
  rw [← hw1]
  clear hw1
  go_upto_region 5 with fail
  go_cut [6] (fun v wx => ∃ (gE : Nat) (A9 : Option Addr) (c9 : Nat), v = .pointer (some ⟨gE, 0, none⟩) ∧ Blk wx gE 27 #[.slice A9 l.length c9, .int .i64 t] ∧ bRK.Own wx w1.heap.size (.slice A9 l.length c9) l ∧ Below w1.heap.size w1 wx ∧ w1.heap.size ≤ gE)
  case first =>
    as_aux_lemma =>
      have HSF := hid (fun (wq : World) (hq : Below w1.heap.size w1 wq) => And.intro ((bcell hq _ _ xz).trans x0) (And.intro ((bcell hq _ _ xz).trans x1) (And.intro ((bcell hq _ _ yz).trans y0) ((bcell hq _ _ yz).trans y1))))
      have BD := hid ((Below.refl w1.heap.size w1).drew)
      refine wpIn_wide.1 (wpIn_region_S (n := 0) (fun wq => Below w1.heap.size w1 wq) [] (by kernel_rfl) BD.out (fun hHeld => ?_))
      generalize w1.drew = wd at *
      clear x0 x1 y0 y1 xz yz ca cb bz X1 X2 X3
      refine wpAnyG_pure 1 (v := ?_) (fun _ => trivial) (by simp only [List.getElem?_toArray, List.getElem?_cons_succ, List.getElem?_cons_zero]; rfl) (by kernel_rfl) (fun _ _ _ _ _ h => h) ⟨(by rfl), (by intro c h; cases h), ?_⟩ hHeld ?_
      rotate_left
      focus (intro wS hSw; (try replace hSw := HSF.out wS hSw); (try dsimp only at hSw); go_simp; (try with_reducible rfl))
      (try simp only [Act.put, List.setIfInBounds_toArray, List.set_cons_zero, List.set_cons_succ])
      refine wpAnyG_take 2 (v := ?_) (fun _ => trivial) (by simp only [List.getElem?_toArray, List.getElem?_cons_succ, List.getElem?_cons_zero]; rfl) (by kernel_rfl) (fun _ _ _ _ _ h => h) ⟨(by rfl), (by intro c h; cases h), ?_⟩ hHeld ?_
      rotate_left
      focus (intro wS hSw; (try replace hSw := HSF.out wS hSw); (try dsimp only at hSw); go_simp; (try with_reducible rfl))
      (try simp only [Act.put, List.setIfInBounds_toArray, List.set_cons_zero, List.set_cons_succ])
      refine wpAnyG_pure 4 (v := ?_) (fun _ => trivial) (by simp only [List.getElem?_toArray, List.getElem?_cons_succ, List.getElem?_cons_zero]; rfl) (by kernel_rfl) (fun _ _ _ _ _ h => h) ⟨(by rfl), (by intro c h; cases h), ?_⟩ hHeld ?_
      rotate_left
      focus (intro wS hSw; (try replace hSw := HSF.out wS hSw); (try dsimp only at hSw); go_simp; (try with_reducible rfl))
      (try simp only [Act.put, List.setIfInBounds_toArray, List.set_cons_zero, List.set_cons_succ])
      refine wpAnyG_take 5 (v := ?_) (fun _ => trivial) (by simp only [List.getElem?_toArray, List.getElem?_cons_succ, List.getElem?_cons_zero]; rfl) (by kernel_rfl) (fun _ _ _ _ _ h => h) ⟨(by rfl), (by intro c h; cases h), ?_⟩ hHeld ?_
      rotate_left
      focus (intro wS hSw; (try replace hSw := HSF.out wS hSw); (try dsimp only at hSw); go_simp; (try with_reducible rfl))
      (try simp only [Act.put, List.setIfInBounds_toArray, List.set_cons_zero, List.set_cons_succ])
      refine wpAnyS_ready [0, 7] (by kernel_rfl) (by simp) (AllReadyS.cons (by simp only [List.getElem?_toArray, List.getElem?_cons_succ, List.getElem?_cons_zero]; rfl) rfl (fun K hK => ?_) (AllReadyS.cons (by simp only [List.getElem?_toArray, List.getElem?_cons_succ, List.getElem?_cons_zero]; rfl) rfl (fun K hK => ?_) AllReadyS.nil))
      · -- the list, then ..
        go_simp
        have BA := hid (BD.out.alloc BD.out.size (Obj.cells #[] 4))
        have HO := hid (show bRK.Own (wd.alloc (Obj.cells #[] 4)) w1.heap.size (.slice (some ⟨wd.heap.size, 0, none⟩) 0 0) [] from RK.Own.fresh (l := []) (Blk.new wd _ _) BD.out.size (by simp))
        refine hK.out _ _ BA.out ?_
        (try simp only [Act.put, List.setIfInBounds_toArray, List.set_cons_zero, List.set_cons_succ])
        clear hK K hHeld
        have hHeld := BA.out
        generalize wd.heap.size = gS at *
        generalize (wd.alloc (Obj.cells #[] 4)) = wa at *
        refine wpAnyS_ready [3, 7] (by kernel_rfl) (by simp) (AllReadyS.cons (by simp only [List.getElem?_toArray, List.getElem?_cons_succ, List.getElem?_cons_zero]; rfl) rfl (fun K hK => ?_) (AllReadyS.cons (by simp only [List.getElem?_toArray, List.getElem?_cons_succ, List.getElem?_cons_zero]; rfl) rfl (fun K hK => ?_) AllReadyS.nil))
        · -- append, then the box
          refine bRK.appS (fun _ => trivial) (.tmp 48) (.tmp 50) rfl rfl HO.out (ys := l) (c := c) rfl ((HS.out.below BA.out)) hl9.out BA.out.size ?_
          intro A9 c9 wb ho9 hg9
          have BB := hid (BA.out.grown hg9 BA.out.size (fun k hk => (own_blk HO.out k hk).1))
          simp only [List.length_nil, Nat.zero_add, List.nil_append] at ho9 ⊢
          replace HO := hid ho9
          clear ho9 hg9
          refine hK.out _ _ BB.out ?_
          (try simp only [Act.put, List.setIfInBounds_toArray, List.set_cons_zero, List.set_cons_succ])
          clear hK K hHeld
          have hHeld := BB.out
          refine wpAnyG_pure 6 (v := ?_) (fun _ => trivial) (by simp only [List.getElem?_toArray, List.getElem?_cons_succ, List.getElem?_cons_zero]; rfl) (by kernel_rfl) (fun _ _ _ _ _ h => h) ⟨(by rfl), (by intro c h; cases h), ?_⟩ hHeld ?_
          rotate_left
          focus (intro wS hSw; (try replace hSw := HSF.out wS hSw); (try dsimp only at hSw); go_simp; (try with_reducible rfl))
          (try simp only [Act.put, List.setIfInBounds_toArray, List.set_cons_zero, List.set_cons_succ])
          refine wpAnyS_ready [7] (by kernel_rfl) (by simp) (AllReadyS.cons (by simp only [List.getElem?_toArray, List.getElem?_cons_succ, List.getElem?_cons_zero]; rfl) rfl (fun K hK => ?_) AllReadyS.nil)
          go_simp
          have BC := hid (BB.out.alloc BB.out.size (Obj.cells #[.slice none 0 0, .int .i64 0] 27))
          have XE := hid (Blk.new wb 27 #[.slice none 0 0, .int .i64 0])
          have hge := hid BB.out.size
          replace HO := hid (HO.out.alloc (Obj.cells #[.slice none 0 0, .int .i64 0] 27))
          refine hK.out _ _ BC.out ?_
          (try simp only [Act.put, List.setIfInBounds_toArray, List.set_cons_zero, List.set_cons_succ])
          clear hK K hHeld
          have hHeld := BC.out
          generalize wb.heap.size = gE at *
          generalize (wb.alloc (Obj.cells #[.slice none 0 0, .int .i64 0] 27)) = wc9 at *
          refine wpAnyS_ready [8] (by kernel_rfl) (by simp) (AllReadyS.cons (by simp only [List.getElem?_toArray, List.getElem?_cons_succ, List.getElem?_cons_zero]; rfl) rfl (fun K hK => ?_) AllReadyS.nil)
          have zE := XE.out.lt; have cE0 := XE.out.cell 0; have cE1 := XE.out.cell 1; have fE := XE.out.frozen
          simp at cE0 cE1
          go_simp
          have HWF := hid ((BC.out.setCell (p := ⟨gE, 0, none⟩) hge.out (.slice A9 l.length c9)).setCell (p := ⟨gE, 1, none⟩) hge.out (.int .i64 t))
          have XF := hid (show Blk ((wc9.setCell ⟨gE, 0, none⟩ (.slice A9 l.length c9)).setCell ⟨gE, 1, none⟩ (.int .i64 t)) gE 27 #[.slice A9 l.length c9, .int .i64 t] by
            have := (XE.out.set_ 0 (.slice A9 l.length c9)).set_ 1 (.int .i64 t)
            simpa using this)
          have HOF := hid (show bRK.Own ((wc9.setCell ⟨gE, 0, none⟩ (.slice A9 l.length c9)).setCell ⟨gE, 1, none⟩ (.int .i64 t)) w1.heap.size (.slice A9 l.length c9) l from own_kt (ts := [4]) (own_kt (ts := [4]) HO.out (KT.of_set XE.out (by decide) _) (by decide)) (KT.of_set (XE.out.set_ 0 _) (by decide) _) (by decide))
          refine hK.out _ _ HWF.out ?_
          (try simp only [Act.put, List.setIfInBounds_toArray, List.set_cons_zero, List.set_cons_succ])
          clear hK K hHeld cE0 cE1 fE zE XE HO
          refine wpAnyS_done (by kernel_rfl) ?_
          clear HSF
          go_wp2_with fail
          go_meet
          exact ⟨gE, A9, c9, rfl, XF.out, HOF.out, HWF.out, hge.out⟩
        · -- the box, then append
          go_simp
          have BB := hid (BA.out.alloc BA.out.size (Obj.cells #[.slice none 0 0, .int .i64 0] 27))
          have XE := hid (Blk.new wa 27 #[.slice none 0 0, .int .i64 0])
          have hge := hid BA.out.size
          replace HO := hid (HO.out.alloc (Obj.cells #[.slice none 0 0, .int .i64 0] 27))
          refine hK.out _ _ BB.out ?_
          (try simp only [Act.put, List.setIfInBounds_toArray, List.set_cons_zero, List.set_cons_succ])
          clear hK K hHeld
          have hHeld := BB.out
          generalize wa.heap.size = gE at *
          generalize (wa.alloc (Obj.cells #[.slice none 0 0, .int .i64 0] 27)) = wb at *
          refine wpAnyS_ready [3] (by kernel_rfl) (by simp) (AllReadyS.cons (by simp only [List.getElem?_toArray, List.getElem?_cons_succ, List.getElem?_cons_zero]; rfl) rfl (fun K hK => ?_) AllReadyS.nil)
          refine bRK.appS (fun _ => trivial) (.tmp 48) (.tmp 50) rfl rfl HO.out (ys := l) (c := c) rfl ((HS.out.below BB.out)) hl9.out BB.out.size ?_
          intro A9 c9 wc9 ho9 hg9
          have BC := hid (BB.out.grown hg9 BB.out.size (fun k hk => (own_blk HO.out k hk).1))
          replace XE := hid (XE.out.grown hg9 (fun e => own_blk_ne HO.out XE.out (by decide) e.symm))
          simp only [List.length_nil, Nat.zero_add, List.nil_append] at ho9 ⊢
          replace HO := hid ho9
          clear ho9 hg9
          refine hK.out _ _ BC.out ?_
          (try simp only [Act.put, List.setIfInBounds_toArray, List.set_cons_zero, List.set_cons_succ])
          clear hK K hHeld
          have hHeld := BC.out
          refine wpAnyG_pure 6 (v := ?_) (fun _ => trivial) (by simp only [List.getElem?_toArray, List.getElem?_cons_succ, List.getElem?_cons_zero]; rfl) (by kernel_rfl) (fun _ _ _ _ _ h => h) ⟨(by rfl), (by intro c h; cases h), ?_⟩ hHeld ?_
          rotate_left
          focus (intro wS hSw; (try replace hSw := HSF.out wS hSw); (try dsimp only at hSw); go_simp; (try with_reducible rfl))
          (try simp only [Act.put, List.setIfInBounds_toArray, List.set_cons_zero, List.set_cons_succ])
          refine wpAnyS_ready [8] (by kernel_rfl) (by simp) (AllReadyS.cons (by simp only [List.getElem?_toArray, List.getElem?_cons_succ, List.getElem?_cons_zero]; rfl) rfl (fun K hK => ?_) AllReadyS.nil)
          have zE := XE.out.lt; have cE0 := XE.out.cell 0; have cE1 := XE.out.cell 1; have fE := XE.out.frozen
          simp at cE0 cE1
          go_simp
          have HWF := hid ((BC.out.setCell (p := ⟨gE, 0, none⟩) hge.out (.slice A9 l.length c9)).setCell (p := ⟨gE, 1, none⟩) hge.out (.int .i64 t))
          have XF := hid (show Blk ((wc9.setCell ⟨gE, 0, none⟩ (.slice A9 l.length c9)).setCell ⟨gE, 1, none⟩ (.int .i64 t)) gE 27 #[.slice A9 l.length c9, .int .i64 t] by
            have := (XE.out.set_ 0 (.slice A9 l.length c9)).set_ 1 (.int .i64 t)
            simpa using this)
          have HOF := hid (show bRK.Own ((wc9.setCell ⟨gE, 0, none⟩ (.slice A9 l.length c9)).setCell ⟨gE, 1, none⟩ (.int .i64 t)) w1.heap.size (.slice A9 l.length c9) l from own_kt (ts := [4]) (own_kt (ts := [4]) HO.out (KT.of_set XE.out (by decide) _) (by decide)) (KT.of_set (XE.out.set_ 0 _) (by decide) _) (by decide))
          refine hK.out _ _ HWF.out ?_
          (try simp only [Act.put, List.setIfInBounds_toArray, List.set_cons_zero, List.set_cons_succ])
          clear hK K hHeld cE0 cE1 fE zE XE HO
          refine wpAnyS_done (by kernel_rfl) ?_
          clear HSF
          go_wp2_with fail
          go_meet
          exact ⟨gE, A9, c9, rfl, XF.out, HOF.out, HWF.out, hge.out⟩
      · -- the box first
        go_simp
        have BA := hid (BD.out.alloc BD.out.size (Obj.cells #[.slice none 0 0, .int .i64 0] 27))
        have XE := hid (Blk.new wd 27 #[.slice none 0 0, .int .i64 0])
        have hge := hid BD.out.size
        refine hK.out _ _ BA.out ?_
        (try simp only [Act.put, List.setIfInBounds_toArray, List.set_cons_zero, List.set_cons_succ])
        clear hK K hHeld
        have hHeld := BA.out
        generalize wd.heap.size = gE at *
        generalize (wd.alloc (Obj.cells #[.slice none 0 0, .int .i64 0] 27)) = wa at *
        refine wpAnyS_ready [0] (by kernel_rfl) (by simp) (AllReadyS.cons (by simp only [List.getElem?_toArray, List.getElem?_cons_succ, List.getElem?_cons_zero]; rfl) rfl (fun K hK => ?_) AllReadyS.nil)
        go_simp
        have BB := hid (BA.out.alloc BA.out.size (Obj.cells #[] 4))
        have HO := hid (show bRK.Own (wa.alloc (Obj.cells #[] 4)) w1.heap.size (.slice (some ⟨wa.heap.size, 0, none⟩) 0 0) [] from RK.Own.fresh (l := []) (Blk.new wa _ _) BA.out.size (by simp))
        replace XE := hid (XE.out.alloc (Obj.cells #[] 4))
        refine hK.out _ _ BB.out ?_
        (try simp only [Act.put, List.setIfInBounds_toArray, List.set_cons_zero, List.set_cons_succ])
        clear hK K hHeld
        have hHeld := BB.out
        generalize wa.heap.size = gS at *
        generalize (wa.alloc (Obj.cells #[] 4)) = wb at *
        refine wpAnyS_ready [3] (by kernel_rfl) (by simp) (AllReadyS.cons (by simp only [List.getElem?_toArray, List.getElem?_cons_succ, List.getElem?_cons_zero]; rfl) rfl (fun K hK => ?_) AllReadyS.nil)
        refine bRK.appS (fun _ => trivial) (.tmp 48) (.tmp 50) rfl rfl HO.out (ys := l) (c := c) rfl ((HS.out.below BB.out)) hl9.out BB.out.size ?_
        intro A9 c9 wc9 ho9 hg9
        have BC := hid (BB.out.grown hg9 BB.out.size (fun k hk => (own_blk HO.out k hk).1))
        replace XE := hid (XE.out.grown hg9 (fun e => own_blk_ne HO.out XE.out (by decide) e.symm))
        simp only [List.length_nil, Nat.zero_add, List.nil_append] at ho9 ⊢
        replace HO := hid ho9
        clear ho9 hg9
        refine hK.out _ _ BC.out ?_
        (try simp only [Act.put, List.setIfInBounds_toArray, List.set_cons_zero, List.set_cons_succ])
        clear hK K hHeld
        have hHeld := BC.out
        refine wpAnyG_pure 6 (v := ?_) (fun _ => trivial) (by simp only [List.getElem?_toArray, List.getElem?_cons_succ, List.getElem?_cons_zero]; rfl) (by kernel_rfl) (fun _ _ _ _ _ h => h) ⟨(by rfl), (by intro c h; cases h), ?_⟩ hHeld ?_
        rotate_left
        focus (intro wS hSw; (try replace hSw := HSF.out wS hSw); (try dsimp only at hSw); go_simp; (try with_reducible rfl))
        (try simp only [Act.put, List.setIfInBounds_toArray, List.set_cons_zero, List.set_cons_succ])
        refine wpAnyS_ready [8] (by kernel_rfl) (by simp) (AllReadyS.cons (by simp only [List.getElem?_toArray, List.getElem?_cons_succ, List.getElem?_cons_zero]; rfl) rfl (fun K hK => ?_) AllReadyS.nil)
        have zE := XE.out.lt; have cE0 := XE.out.cell 0; have cE1 := XE.out.cell 1; have fE := XE.out.frozen
        simp at cE0 cE1
        go_simp
        have HWF := hid ((BC.out.setCell (p := ⟨gE, 0, none⟩) hge.out (.slice A9 l.length c9)).setCell (p := ⟨gE, 1, none⟩) hge.out (.int .i64 t))
        have XF := hid (show Blk ((wc9.setCell ⟨gE, 0, none⟩ (.slice A9 l.length c9)).setCell ⟨gE, 1, none⟩ (.int .i64 t)) gE 27 #[.slice A9 l.length c9, .int .i64 t] by
          have := (XE.out.set_ 0 (.slice A9 l.length c9)).set_ 1 (.int .i64 t)
          simpa using this)
        have HOF := hid (show bRK.Own ((wc9.setCell ⟨gE, 0, none⟩ (.slice A9 l.length c9)).setCell ⟨gE, 1, none⟩ (.int .i64 t)) w1.heap.size (.slice A9 l.length c9) l from own_kt (ts := [4]) (own_kt (ts := [4]) HO.out (KT.of_set XE.out (by decide) _) (by decide)) (KT.of_set (XE.out.set_ 0 _) (by decide) _) (by decide))
        refine hK.out _ _ HWF.out ?_
        (try simp only [Act.put, List.setIfInBounds_toArray, List.set_cons_zero, List.set_cons_succ])
        clear hK K hHeld cE0 cE1 fE zE XE HO
        refine wpAnyS_done (by kernel_rfl) ?_
        clear HSF
        go_wp2_with fail
        go_meet
        exact ⟨gE, A9, c9, rfl, XF.out, HOF.out, HWF.out, hge.out⟩
  case rest =>
    clear x0 x1 y0 y1 xz yz ca cb bz HS hl9
    obtain ⟨gE, A9, c9, rfl, hXE, hO, hB, hge⟩ := hcut
    obtain ⟨g, cap, cur, hv, hg, -, hcc, hcm, -⟩ := own_cell hO (show 0 < l.length by omega)
    injection hv with h1 h2 h3
    obtain rfl : cap = c9 := h3.symm
    subst h1
    clear h2
    have HO := hid hO
    have XE := hid hXE
    have hgt := hid hg
    have hcap := hid (And.intro hcc hcm)
    have BX := hid hB
    have hgE := hid hge
    have hgne := hid (show g ≠ gE by
      intro e
      have := own_blk_ne hO hXE (by decide)
      exact this (by rw [e]; rfl))
    clear hO hXE hg hcc hcm hB hge
    have X2b := hid (X2.out.below BX.out X2.out.lt)
    have X3b := hid (X3.out.below BX.out X3.out.lt)
    clear X1 X2 X3
    have x0 := XE.out.cell 0; have y0 := X2b.out.cell 0; have y1 := X2b.out.cell 1; have xz := XE.out.lt; have yz := X2b.out.lt
    simp at x0 y0 y1
    obtain ⟨gz, -, gc, gf⟩ := HO.out.at_ ha
    have gc0 := gc 0 (show 0 < 1 by omega)
    rw [show bRK.size = 1 from rfl, Nat.mul_one, Nat.add_zero] at gc0
    have gc1 : wc.cell? ⟨g, a, none⟩ = some (.bool l[a]) := gc0
    have gf1 := gf a
    clear gc gc0 gf
    go_upto_region 7 with fail
    have BA := hid (BX.out.setCell (p := ⟨g, a, none⟩) hgt.out (.bool false))
    have HOa := hid (show bRK.Own (wc.setCell ⟨g, a, none⟩ (.bool false)) w1.heap.size (.slice (some ⟨g, 0, none⟩) l.length cap) (l.set a false) from by
      have := HO.out.set_ ha (j := 0) (show 0 < 1 by omega) (y := false) (u := .bool false) rfl
      rw [show bRK.size = 1 from rfl, Nat.mul_one, Nat.add_zero] at this
      exact this)
    have XEa := hid (XE.out.far (p := ⟨g, a, none⟩) (by simpa using (Ne.symm hgne.out)) (.bool false))
    have X2a := hid (X2b.out.far (p := ⟨g, a, none⟩) (by have := hgt.out; have := hsz.out; simp; omega) (.bool false))
    have X3a := hid (X3b.out.far (p := ⟨g, a, none⟩) (by have := hgt.out; have := hsz.out; simp; omega) (.bool false))
    clear gz gc1 gf1 HO BX XE X2b X3b x0 y0 y1 xz yz
    generalize (wc.setCell ⟨g, a, none⟩ (.bool false)) = wa at *
    have hbs : b < (l.set a false).length := by rw [List.length_set]; exact hb
    have x0 := XEa.out.cell 0; have y0 := X2a.out.cell 0; have y1 := X2a.out.cell 1; have xz := XEa.out.lt; have yz := X2a.out.lt
    simp at x0 y0 y1
    obtain ⟨gz, -, gc, gf⟩ := HOa.out.at_ hbs
    have gc0 := gc 0 (show 0 < 1 by omega)
    rw [show bRK.size = 1 from rfl, Nat.mul_one, Nat.add_zero] at gc0
    have gc1 : wa.cell? ⟨g, b, none⟩ = some (.bool (l.set a false)[b]) := gc0
    have gf1 := gf b
    clear gc gc0 gf
    generalize (l.set a false)[b] = lb at gc1
    go_upto_region 8 with fail
    have BB := hid (BA.out.setCell (p := ⟨g, b, none⟩) hgt.out (.bool true))
    have HOb := hid (show bRK.Own (wa.setCell ⟨g, b, none⟩ (.bool true)) w1.heap.size (.slice (some ⟨g, 0, none⟩) l.length cap) (doL l a b) from by
      have := HOa.out.set_ hbs (j := 0) (show 0 < 1 by omega) (y := true) (u := .bool true) rfl
      rw [show bRK.size = 1 from rfl, Nat.mul_one, Nat.add_zero] at this
      exact this)
    have XEb := hid (XEa.out.far (p := ⟨g, b, none⟩) (by simpa using (Ne.symm hgne.out)) (.bool true))
    have X2d := hid (X2a.out.far (p := ⟨g, b, none⟩) (by have := hgt.out; have := hsz.out; simp; omega) (.bool true))
    have X3d := hid (X3a.out.far (p := ⟨g, b, none⟩) (by have := hgt.out; have := hsz.out; simp; omega) (.bool true))
    clear gz gc1 gf1 HOa BA XEa X2a X3a x0 y0 y1 xz yz hbs
    generalize (wa.setCell ⟨g, b, none⟩ (.bool true)) = wb at *
    have Bb := hid (B1.out.trans (BB.out.mono B1.out.size))
    have x0 := XEb.out.cell 0; have x1 := XEb.out.cell 1; have y0 := X2d.out.cell 0; have y1 := X2d.out.cell 1; have z0 := X3d.out.cell 0; have z1 := X3d.out.cell 1
    have xf := XEb.out.frozen; have zf := X3d.out.frozen; have xz := XEb.out.lt; have yz := X2d.out.lt; have zz := X3d.out.lt
    simp at x0 x1 y0 y1 z0 z1
    have hEz : w.heap.size + 1 + 1 ≠ gE := by have := hgE.out; have := hsz.out; omega
    have hEw : w.heap.size ≤ gE := by have := hgE.out; have := hsz.out; omega
    by_cases hta : t = a
    · have hdt := hid (show doT t a b = b by unfold doT; rw [if_pos hta])
      subst hta
      have XEw := hid (show Blk (wb.setCell ⟨gE, 1, none⟩ (.int .i64 (b : Nat))) gE 27 #[.slice (some ⟨g, 0, none⟩) l.length cap, .int .i64 (b : Nat)] by
        have := XEb.out.set_ 1 (.int .i64 (b : Nat))
        simpa using this)
      have X3w := hid (X3d.out.far (p := ⟨gE, 1, none⟩) (by simpa using hEz) (.int .i64 (b : Nat)))
      have Bw := hid (Bb.out.setCell (p := ⟨gE, 1, none⟩) hEw (.int .i64 (b : Nat)))
      have HOw := hid (show bRK.Own (wb.setCell ⟨gE, 1, none⟩ (.int .i64 (b : Nat))) w1.heap.size (.slice (some ⟨g, 0, none⟩) l.length cap) (doL l a b) from own_kt (ts := [4]) HOb.out (KT.of_set XEb.out (by decide) _) (by decide))
      go_wp2_with fail
      have X3e := hid (show Blk (((wb.setCell ⟨gE, 1, none⟩ (.int .i64 (b : Nat))).setCell ⟨w.heap.size + 1 + 1, 0, none⟩ (.slice (some ⟨g, 0, none⟩) l.length cap)).setCell ⟨w.heap.size + 1 + 1, 1, none⟩ (.int .i64 (b : Nat))) (w.heap.size + 1 + 1) 27 #[.slice (some ⟨g, 0, none⟩) l.length cap, .int .i64 (b : Nat)] from by
        have := (X3w.out.set_ 0 (.slice (some ⟨g, 0, none⟩) l.length cap)).set_ 1 (.int .i64 (b : Nat))
        simpa using this)
      have BZ := hid (show Below w.heap.size w (((wb.setCell ⟨gE, 1, none⟩ (.int .i64 (b : Nat))).setCell ⟨w.heap.size + 1 + 1, 0, none⟩ (.slice (some ⟨g, 0, none⟩) l.length cap)).setCell ⟨w.heap.size + 1 + 1, 1, none⟩ (.int .i64 (b : Nat))) from (Bw.out.setCell (by simp; omega) _).setCell (by simp; omega) _)
      have HOz := hid (show bRK.Own (((wb.setCell ⟨gE, 1, none⟩ (.int .i64 (b : Nat))).setCell ⟨w.heap.size + 1 + 1, 0, none⟩ (.slice (some ⟨g, 0, none⟩) l.length cap)).setCell ⟨w.heap.size + 1 + 1, 1, none⟩ (.int .i64 (b : Nat))) w1.heap.size (.slice (some ⟨g, 0, none⟩) l.length cap) (doL l a b) from own_kt (ts := [4]) (own_kt (ts := [4]) HOw.out (KT.of_set X3w.out (by decide) _) (by decide)) (KT.of_set (X3w.out.set_ 0 _) (by decide) _) (by decide))
      generalize (((wb.setCell ⟨gE, 1, none⟩ (.int .i64 (b : Nat))).setCell ⟨w.heap.size + 1 + 1, 0, none⟩ (.slice (some ⟨g, 0, none⟩) l.length cap)).setCell ⟨w.heap.size + 1 + 1, 1, none⟩ (.int .i64 (b : Nat))) = wz at *
      have e0 := X3e.out.cell 0; have e1 := X3e.out.cell 1
      simp at e0 e1
      refine bodyPost_ret (v := .tuple #[.agg #[.slice (some ⟨g, 0, none⟩) l.length cap, .int .i64 (b : Nat)], .int .i64 0]) (by simp [results, Tryz.results18, go_sem, e0, e1]) rfl ?_
      obtain ⟨A9, c9, e9, _, _, s9⟩ := HOz.out.slr (fun _ _ => trivial)
      injection e9 with e9
      refine ⟨some ⟨g, 0, none⟩, cap, by rw [hdt.out], hcap.out.1, hcap.out.2, by rw [e9]; exact s9, BZ.out⟩
    · have hdt := hid (show doT t a b = t by unfold doT; rw [if_neg hta])
      have htb : (t == (a : Int)) = false := by simp [hta]
      have X3w := X3d
      have Bw := Bb
      have HOw := HOb
      go_wp2_with fail
      have X3e := hid (show Blk ((wb.setCell ⟨w.heap.size + 1 + 1, 0, none⟩ (.slice (some ⟨g, 0, none⟩) l.length cap)).setCell ⟨w.heap.size + 1 + 1, 1, none⟩ (.int .i64 t)) (w.heap.size + 1 + 1) 27 #[.slice (some ⟨g, 0, none⟩) l.length cap, .int .i64 t] from by
        have := (X3w.out.set_ 0 (.slice (some ⟨g, 0, none⟩) l.length cap)).set_ 1 (.int .i64 t)
        simpa using this)
      have BZ := hid (show Below w.heap.size w ((wb.setCell ⟨w.heap.size + 1 + 1, 0, none⟩ (.slice (some ⟨g, 0, none⟩) l.length cap)).setCell ⟨w.heap.size + 1 + 1, 1, none⟩ (.int .i64 t)) from (Bw.out.setCell (by simp; omega) _).setCell (by simp; omega) _)
      have HOz := hid (show bRK.Own ((wb.setCell ⟨w.heap.size + 1 + 1, 0, none⟩ (.slice (some ⟨g, 0, none⟩) l.length cap)).setCell ⟨w.heap.size + 1 + 1, 1, none⟩ (.int .i64 t)) w1.heap.size (.slice (some ⟨g, 0, none⟩) l.length cap) (doL l a b) from own_kt (ts := [4]) (own_kt (ts := [4]) HOw.out (KT.of_set X3w.out (by decide) _) (by decide)) (KT.of_set (X3w.out.set_ 0 _) (by decide) _) (by decide))
      generalize ((wb.setCell ⟨w.heap.size + 1 + 1, 0, none⟩ (.slice (some ⟨g, 0, none⟩) l.length cap)).setCell ⟨w.heap.size + 1 + 1, 1, none⟩ (.int .i64 t)) = wz at *
      have e0 := X3e.out.cell 0; have e1 := X3e.out.cell 1
      simp at e0 e1
      refine bodyPost_ret (v := .tuple #[.agg #[.slice (some ⟨g, 0, none⟩) l.length cap, .int .i64 t], .int .i64 0]) (by simp [results, Tryz.results18, go_sem, e0, e1]) rfl ?_
      obtain ⟨A9, c9, e9, _, _, s9⟩ := HOz.out.slr (fun _ _ => trivial)
      injection e9 with e9
      refine ⟨some ⟨g, 0, none⟩, cap, by rw [hdt.out], hcap.out.1, hcap.out.2, by rw [e9]; exact s9, BZ.out⟩
end Go.Proofs.YtgbgcmhmlnmklaaGreatDoor
namespace Go.Proofs.YtgbgcmhmlnmklaaGreatDoor
open Go.RowKit Go.IntWalk

/-- A layout is returned, and v with it. -/
def RetX (f : List Bool) (t : Int) (v : Value) (w : World) (e : Ending) (w' : World) : Prop :=
  ∃ A c, e = .returned (.tuple #[.agg #[.slice A f.length c, .int .i64 t], v]) ∧ SlR w' w'.heap.size A f ∧ Below w.heap.size w w'
theorem unrank_both (n k r : Int) : ∃ (f : List Bool) (t : Int) (ok : Bool), f.length ≤ maxLen ∧
    (∀ W, Calls Tryz.prog 5 #[.int .i64 n, .int .i64 k, .int .i64 r] W (RetX f t (.bool ok) W)) ∧
    (∀ W, Calls Tryz.prog 6 #[.int .i64 n, .int .i64 k, .int .i64 r] W (RetX f t (.bool ok) W)) := by
  by_cases h : r < 0 ∨ countL n k ≤ r
  · refine ⟨[], 0, false, by simp, fun W => (unrank_no n k r W h).mono ?_, fun W => (unrank_no_r n k r W h).mono ?_⟩ <;>
    · rintro e w' ⟨rfl, hB⟩
      exact ⟨none, 0, rfl, SlR.nil, hB⟩
  · have hc : 1 ≤ n ∧ n ≤ 24 ∧ 1 ≤ k ∧ k ≤ n := by
      by_cases hc : 1 ≤ n ∧ n ≤ 24 ∧ 1 ≤ k ∧ k ≤ n
      · exact hc
      · exfalso
        have : countL n k = 0 := by simp only [countL]; rw [if_neg hc]
        omega
    obtain ⟨h1, h2, h3, h4⟩ := hc
    obtain ⟨n, rfl⟩ := Int.eq_ofNat_of_zero_le (show 0 ≤ n by omega)
    obtain ⟨k, rfl⟩ := Int.eq_ofNat_of_zero_le (show 0 ≤ k by omega)
    obtain ⟨r, rfl⟩ := Int.eq_ofNat_of_zero_le (show 0 ≤ r by omega)
    have hcnt : countL n k = (n * binom (n-1) (k-1) : Nat) := by simp only [countL]; rw [if_pos (by omega)]; simp
    have hr : r < n * binom (n-1) (k-1) := by rw [hcnt] at h; omega
    have hf := unrankN_facts (n := n) (k := k) (r := r) (by omega) (by omega) (by omega) (by omega) hr
    have hlen := hf.2.1
    refine ⟨unrankN n k r, (r / binom (n-1) (k-1) : Nat), true, by rw [hlen]; unfold maxLen; omega, fun W => (unrank_yes n k r W (by omega) (by omega) (by omega) (by omega) hr).mono ?_, fun W => (unrank_yes_r n k r W (by omega) (by omega) (by omega) (by omega) hr).mono ?_⟩ <;>
    · rintro e w' ⟨g, rfl, hs, hB⟩
      exact ⟨some ⟨g, 0, none⟩, n, by rw [hlen], hs, hB⟩
theorem read_both (s : ByteArray) (hs : s.size ≤ 20000) : ∃ (f : List Bool) (t : Int) (ok : Bool), f.length ≤ maxLen ∧
    (∀ W, Env W → Calls Tryz.prog 7 #[.string s] W (RetX f t (.bool ok) W)) ∧
    (∀ W, Calls Tryz.prog 8 #[.string s] W (RetX f t (.bool ok) W)) := by
  have h1 := fun W (he : Env W) => lread_any s W hs he
  have h2 := fun W => rlread_any s W hs
  cases hr : readLay s.data.toList with
  | none =>
    rw [hr] at h1 h2
    refine ⟨[], 0, false, by simp, fun W he => (h1 W he).mono ?_, fun W => (h2 W).mono ?_⟩ <;>
    · rintro e w' ⟨rfl, hB⟩
      exact ⟨none, 0, rfl, SlR.nil, hB⟩
  | some p =>
    obtain ⟨f, t⟩ := p
    have hf := ((rightL_iff f t).1 (readLay_some hr).1).2.1
    rw [hr] at h1 h2
    refine ⟨f, t, true, by unfold maxLen; omega, fun W he => (h1 W he).mono ?_, fun W => (h2 W).mono ?_⟩ <;>
    · rintro e w' ⟨g, rfl, hs, hB⟩
      exact ⟨some ⟨g, 0, none⟩, f.length, rfl, hs, hB⟩
theorem do_both (A : Option Addr) (c : Nat) (l : List Bool) (t a b : Int) (hl : l.length ≤ 24) : ∃ (f : List Bool) (u : Int) (ec : Int), f.length ≤ maxLen ∧
    (∀ W, SlR W W.heap.size A l → Calls Tryz.prog 17 #[.agg #[.slice A l.length c, .int .i64 t], .agg #[.int .i64 a, .int .i64 b]] W (RetX f u (.int .i64 ec) W)) ∧
    (∀ W, SlR W W.heap.size A l → Calls Tryz.prog 18 #[.agg #[.slice A l.length c, .int .i64 t], .agg #[.int .i64 a, .int .i64 b]] W (RetX f u (.int .i64 ec) W)) := by
  have no : ∀ (ec : Int) (W : World) (e : Ending) (w' : World), e = noDo ec ∧ Below W.heap.size W w' → RetX [] 0 (.int .i64 ec) W e w' := by
    rintro ec W e w' ⟨rfl, hB⟩
    exact ⟨none, 0, rfl, SlR.nil, hB⟩
  by_cases h : a < 0 ∨ (l.length : Int) ≤ a ∨ b < 0 ∨ (l.length : Int) ≤ b
  · exact ⟨[], 0, 3, by simp, fun W _ => (do_range A c l t a b W h).mono (no 3 W), fun W _ => (do_range_r A c l t a b W h).mono (no 3 W)⟩
  · obtain ⟨a, rfl⟩ := Int.eq_ofNat_of_zero_le (show 0 ≤ a by omega)
    obtain ⟨b, rfl⟩ := Int.eq_ofNat_of_zero_le (show 0 ≤ b by omega)
    have ha : a < l.length := by omega
    have hb : b < l.length := by omega
    by_cases h2 : l[a] = false ∨ l[b] = true
    · exact ⟨[], 0, 13, by simp, fun W hs => (do_place A c l t a b W hs ha hb h2).mono (no 13 W), fun W hs => (do_place_r A c l t a b W hs ha hb h2).mono (no 13 W)⟩
    · have hla : l[a] = true := by cases hq : l[a] with | true => rfl | false => exact absurd (.inl hq) h2
      have hlb : l[b] = false := by cases hq : l[b] with | false => rfl | true => exact absurd (.inr hq) h2
      have hdl : (doL l a b).length = l.length := by simp [doL]
      refine ⟨doL l a b, doT t a b, 0, by rw [hdl]; unfold maxLen; omega, fun W hs => (do_any A c l t a b W hl hs ha hb hla hlb).mono ?_, fun W hs => (do_any_r A c l t a b W hl hs ha hb hla hlb).mono ?_⟩ <;>
      · rintro e w' ⟨A', c', rfl, _, _, hs', hB⟩
        exact ⟨A', c', by rw [hdl], hs', hB⟩
/-- Block g holds a layout. -/
structure Bx (w : World) (g : Nat) (A : Option Addr) (c : Nat) (f : List Bool) (t : Int) : Prop where
  b : Blk w g 27 #[.slice A f.length c, .int .i64 t]
  s : SlR w w.heap.size A f
theorem Bx.mk' {w : World} {A : Option Addr} {f : List Bool} (c : Nat) (t : Int) (h : SlR w w.heap.size A f) : Bx (w.alloc (Obj.cells #[.slice A f.length c, .int .i64 t] 27)) w.heap.size A c f t :=
  ⟨Blk.new _ _ _, (h.alloc (Nat.le_refl _) _).more (by simp)⟩
theorem Bx.step {w w' : World} {g : Nat} {A : Option Addr} {c : Nat} {f : List Bool} {t : Int} (h : Bx w g A c f t) (hB : Below w.heap.size w w') : Bx w' g A c f t :=
  ⟨h.b.below hB h.b.lt, (h.s.below hB).more hB.size⟩
theorem Bx.cells {w : World} {g : Nat} {A : Option Addr} {c : Nat} {f : List Bool} {t : Int} (h : Bx w g A c f t) : w.cell? ⟨g, 0, none⟩ = some (.slice A f.length c) ∧ w.cell? ⟨g, 1, none⟩ = some (.int .i64 t) := by
  have e0 := h.b.cell 0; have e1 := h.b.cell 1
  simp at e0 e1
  exact ⟨e0, e1⟩
end Go.Proofs.YtgbgcmhmlnmklaaGreatDoor
namespace Go.Proofs.YtgbgcmhmlnmklaaGreatDoor
open Go.RowKit Go.IntWalk
/-- The shifts from i, to the first k. -/
def betRow (W H D : Int) (kind out r : List Int) (l : List Bool) (full : Bool) (i k : Nat) : List Sh :=
  (List.range k).filterMap (fun j => if l.getD i (!full) = full ∧ l.getD j full ≠ full ∧ getsN W H D kind out (r.getD i 0) (r.getD j 0) 6 = true then some ((i : Int), (j : Int)) else none)
/-- The shifts from the first k, to the first n. -/
def betL (W H D : Int) (kind out r : List Int) (l : List Bool) (full : Bool) (n k : Nat) : List Sh :=
  (List.range k).flatMap (fun i => betRow W H D kind out r l full i n)
/-- The order of shifts. -/
def ShLt (x y : Sh) : Prop := x.1 < y.1 ∨ x.1 = y.1 ∧ x.2 < y.2
section
variable {W H D : Int} {kind out r : List Int} {l : List Bool} {full : Bool}
theorem betRow_succ (i k : Nat) : betRow W H D kind out r l full i (k + 1) = betRow W H D kind out r l full i k ++
    (if l.getD i (!full) = full ∧ l.getD k full ≠ full ∧ getsN W H D kind out (r.getD i 0) (r.getD k 0) 6 = true then [((i : Int), (k : Int))] else []) := by
  unfold betRow
  rw [List.range_succ, List.filterMap_append]
  congr 1
  by_cases h : l.getD i (!full) = full ∧ l.getD k full ≠ full ∧ getsN W H D kind out (r.getD i 0) (r.getD k 0) 6 = true
  · rw [if_pos h]; simp only [List.filterMap_cons, List.filterMap_nil, if_pos h]
  · rw [if_neg h]; simp only [List.filterMap_cons, List.filterMap_nil, if_neg h]
theorem betL_succ (n k : Nat) : betL W H D kind out r l full n (k + 1) = betL W H D kind out r l full n k ++ betRow W H D kind out r l full k n := by
  unfold betL
  rw [List.range_succ, List.flatMap_append]
  simp
theorem betRow_mem {i k : Nat} {x : Sh} : x ∈ betRow W H D kind out r l full i k ↔ ∃ j : Nat, j < k ∧ x = ((i : Int), (j : Int)) ∧ l.getD i (!full) = full ∧ l.getD j full ≠ full ∧ getsN W H D kind out (r.getD i 0) (r.getD j 0) 6 = true := by
  unfold betRow
  rw [List.mem_filterMap]
  constructor
  · rintro ⟨j, hj, hx⟩
    rw [List.mem_range] at hj
    split at hx
    · rename_i h
      injection hx with hx
      exact ⟨j, hj, hx.symm, h⟩
    · cases hx
  · rintro ⟨j, hj, rfl, h⟩
    exact ⟨j, List.mem_range.2 hj, if_pos h⟩
theorem betL_mem {n k : Nat} {x : Sh} : x ∈ betL W H D kind out r l full n k ↔ ∃ i j : Nat, i < k ∧ j < n ∧ x = ((i : Int), (j : Int)) ∧ l.getD i (!full) = full ∧ l.getD j full ≠ full ∧ getsN W H D kind out (r.getD i 0) (r.getD j 0) 6 = true := by
  unfold betL
  rw [List.mem_flatMap]
  constructor
  · rintro ⟨i, hi, hx⟩
    obtain ⟨j, hj, h⟩ := betRow_mem.1 hx
    exact ⟨i, j, List.mem_range.1 hi, hj, h⟩
  · rintro ⟨i, j, hi, hj, h⟩
    exact ⟨i, List.mem_range.2 hi, betRow_mem.2 ⟨j, hj, h⟩⟩
theorem betRow_sorted (i k : Nat) : (betRow W H D kind out r l full i k).Pairwise ShLt := by
  induction k with
  | zero => simp [betRow]
  | succ k ih =>
    rw [betRow_succ]
    refine List.pairwise_append.2 ⟨ih, ?_, ?_⟩
    · split <;> simp
    · intro x hx y hy
      obtain ⟨j, hj, rfl, -⟩ := betRow_mem.1 hx
      split at hy
      · simp only [List.mem_singleton] at hy
        subst hy
        exact .inr ⟨rfl, show (j : Int) < (k : Int) by omega⟩
      · cases hy
theorem betL_sorted (n k : Nat) : (betL W H D kind out r l full n k).Pairwise ShLt := by
  induction k with
  | zero => simp [betL]
  | succ k ih =>
    rw [betL_succ]
    refine List.pairwise_append.2 ⟨ih, betRow_sorted k n, ?_⟩
    intro x hx y hy
    obtain ⟨i, j, hi, hj, rfl, -⟩ := betL_mem.1 hx
    obtain ⟨j2, hj2, rfl, -⟩ := betRow_mem.1 hy
    exact .inl (show (i : Int) < (k : Int) by omega)
theorem betRow_len (i k : Nat) : (betRow W H D kind out r l full i k).length ≤ k := by
  unfold betRow
  exact Nat.le_trans (List.length_filterMap_le _ _) (by simp)
theorem betL_len (n k : Nat) : (betL W H D kind out r l full n k).length ≤ k * n := by
  induction k with
  | zero => simp [betL]
  | succ k ih =>
    rw [betL_succ, List.length_append, Nat.succ_mul]
    have := betRow_len (W := W) (H := H) (D := D) (kind := kind) (out := out) (r := r) (l := l) (full := full) k n
    omega
end
theorem shLt_irrefl (x : Sh) : ¬ ShLt x x := by rintro (h | ⟨_, h⟩) <;> omega
theorem shLt_asymm {x y : Sh} (h : ShLt x y) : ¬ ShLt y x := by
  rintro (h2 | ⟨e2, h2⟩) <;> rcases h with h | ⟨e, h⟩ <;> omega
theorem sorted_nodup {s : List Sh} (h : s.Pairwise ShLt) : s.Nodup := by
  unfold List.Nodup
  refine h.imp ?_
  intro a b hab e
  subst e
  exact shLt_irrefl a hab
/-- Sorted lists of the same shifts are the same. -/
theorem sorted_eq {s t : List Sh} (hp : s.Perm t) (hs : s.Pairwise ShLt) (ht : t.Pairwise ShLt) : s = t :=
  List.Perm.eq_of_pairwise (fun _ _ _ _ h1 h2 => absurd h2 (shLt_asymm h1)) hs ht hp
end Go.Proofs.YtgbgcmhmlnmklaaGreatDoor
namespace Go.Proofs.YtgbgcmhmlnmklaaGreatDoor
open Go.Shelf
def laysSort_ren : Go.Shelf.Ren := ⟨fun | 6 => 66 | 15 => 83 | 14 => 82 | 28 => 104 | 29 => 105 | 20 => 96 | 21 => 97 | 22 => 98 | 23 => 99 | 24 => 100 | 25 => 101 | 26 => 102 | 27 => 103 | 46 => 119 | 47 => 120 | 48 => 121 | 49 => 122 | 50 => 123 | 57 => 135 | n => n, fun | 22 => 44 | 24 => 29 | 25 => 81 | 3 => 3 | 39 => 97 | 0 => 0 | 53 => 121 | 55 => 123 | 4 => 4 | 46 => 115 | 45 => 114 | 50 => 77 | 5 => 5 | 9 => 9 | 66 => 136 | 70 => 140 | 76 => 153 | 77 => 154 | n => n, fun | n => n⟩
theorem laysSort : Go.Proofs.SlLaysF0.n6 Tryz.prog laysSort_ren := {
  mixed := by kernel_rfl
  f6 := ⟨Tryz.f66.name, by decide, Tryz.func66.trans (congrArg some (by kernel_rfl))⟩
  f14 := ⟨Tryz.f82.name, by decide, Tryz.func82.trans (congrArg some (by kernel_rfl))⟩
  f15 := Tryz.func83.trans (congrArg some (by kernel_rfl))
  f20 := ⟨Tryz.f96.name, by decide, Tryz.func96.trans (congrArg some (by kernel_rfl))⟩
  f21 := ⟨Tryz.f97.name, by decide, Tryz.func97.trans (congrArg some (by kernel_rfl))⟩
  f22 := ⟨Tryz.f98.name, by decide, Tryz.func98.trans (congrArg some (by kernel_rfl))⟩
  f23 := ⟨Tryz.f99.name, by decide, Tryz.func99.trans (congrArg some (by kernel_rfl))⟩
  f24 := ⟨Tryz.f100.name, by decide, Tryz.func100.trans (congrArg some (by kernel_rfl))⟩
  f25 := ⟨Tryz.f101.name, by decide, Tryz.func101.trans (congrArg some (by kernel_rfl))⟩
  f26 := ⟨Tryz.f102.name, by decide, Tryz.func102.trans (congrArg some (by kernel_rfl))⟩
  f27 := ⟨Tryz.f103.name, by decide, Tryz.func103.trans (congrArg some (by kernel_rfl))⟩
  f28 := Tryz.func104.trans (congrArg some (by kernel_rfl))
  f29 := Tryz.func105.trans (congrArg some (by kernel_rfl))
  f46 := ⟨Tryz.f119.name, by decide, Tryz.func119.trans (congrArg some (by kernel_rfl))⟩
  f47 := Tryz.func120.trans (congrArg some (by kernel_rfl))
  f48 := Tryz.func121.trans (congrArg some (by kernel_rfl))
  f49 := ⟨Tryz.f122.name, by decide, Tryz.func122.trans (congrArg some (by kernel_rfl))⟩
  f50 := ⟨Tryz.f123.name, by decide, Tryz.func123.trans (congrArg some (by kernel_rfl))⟩
  f57 := ⟨Tryz.f135.name, by decide, Tryz.func135.trans (congrArg some (by kernel_rfl))⟩
  t0 := Tryz.underlying0
  a0 := Tryz.isAgg0
  z0 := Tryz.sizeOf0
  v0 := Tryz.zeroValue0
  t3 := Tryz.underlying3
  a3 := Tryz.isAgg3
  z3 := Tryz.sizeOf3
  v3 := Tryz.zeroValue3
  t4 := Tryz.underlying4
  a4 := Tryz.isAgg4
  z4 := Tryz.sizeOf4
  v4 := Tryz.zeroValue4
  t5 := Tryz.underlying5
  a5 := Tryz.isAgg5
  z5 := Tryz.sizeOf5
  v5 := Tryz.zeroValue5
  t9 := Tryz.underlying9
  a9 := Tryz.isAgg9
  z9 := Tryz.sizeOf9
  v9 := Tryz.zeroValue9
  t22 := Tryz.underlying44
  a22 := Tryz.isAgg44
  z22 := Tryz.sizeOf44
  v22 := Tryz.zeroValue44
  t25 := Tryz.underlying81
  a25 := Tryz.isAgg81
  z25 := Tryz.sizeOf81
  v25 := Tryz.zeroValue81
  t39 := Tryz.underlying97
  a39 := Tryz.isAgg97
  z39 := Tryz.sizeOf97
  v39 := Tryz.zeroValue97
  t45 := Tryz.underlying114
  a45 := Tryz.isAgg114
  z45 := Tryz.sizeOf114
  v45 := Tryz.zeroValue114
  t46 := Tryz.underlying115
  a46 := Tryz.isAgg115
  z46 := Tryz.sizeOf115
  v46 := Tryz.zeroValue115
  t50 := Tryz.underlying77
  a50 := Tryz.isAgg77
  z50 := Tryz.sizeOf77
  v50 := Tryz.zeroValue77
  t53 := Tryz.underlying121
  a53 := Tryz.isAgg121
  z53 := Tryz.sizeOf121
  v53 := Tryz.zeroValue121
  t55 := Tryz.underlying123
  a55 := Tryz.isAgg123
  z55 := Tryz.sizeOf123
  v55 := Tryz.zeroValue123
  t66 := Tryz.underlying136
  a66 := Tryz.isAgg136
  z66 := Tryz.sizeOf136
  v66 := Tryz.zeroValue136
  t70 := Tryz.underlying140
  a70 := Tryz.isAgg140
  z70 := Tryz.sizeOf140
  v70 := Tryz.zeroValue140
  t76 := Tryz.underlying153
  a76 := Tryz.isAgg153
  z76 := Tryz.sizeOf153
  v76 := Tryz.zeroValue153
  t77 := Tryz.underlying154
  a77 := Tryz.isAgg154
  z77 := Tryz.sizeOf154
  v77 := Tryz.zeroValue154 }
end Go.Proofs.YtgbgcmhmlnmklaaGreatDoor
namespace Go.Proofs.YtgbgcmhmlnmklaaGreatDoor
open Go.RowKit Go.IntWalk Go.Shelf Go.Sort

/-- Shifts between cells of a region. -/
abbrev Sw := {x : Sh // (0 ≤ x.1 ∧ x.1 ≤ 1000) ∧ 0 ≤ x.2 ∧ x.2 ≤ 1000}
instance : Inhabited Sw := ⟨⟨(0, 0), by decide⟩⟩
def cfS (x y : Sw) : Int := if x.1.1 ≠ y.1.1 then x.1.1 - y.1.1 else x.1.2 - y.1.2
theorem ltS (x y : Sw) : ltOf cfS x y = decide (x.1.1 < y.1.1 ∨ x.1.1 = y.1.1 ∧ x.1.2 < y.1.2) := by
  unfold ltOf cfS
  refine decide_eq_decide.2 ?_
  split <;> omega
theorem swoS : SWO (ltOf cfS) where
  irrefl x := by rw [ltS]; simp
  trans x y z h1 h2 := by rw [ltS] at *; simp only [decide_eq_true_eq] at *; omega
  ntrans x y z h1 h2 := by rw [ltS] at *; simp only [decide_eq_false_iff_not] at *; omega
set_option maxRecDepth 100000 in
set_option maxHeartbeats 1000000 in
theorem shcmp_ex (x y : Sw) (W : World) : Calls Tryz.prog 67 #[.agg #[.int .i64 x.1.1, .int .i64 x.1.2], .agg #[.int .i64 y.1.1, .int .i64 y.1.2]] W fun e w' => e = .returned (.int .i64 (cfS x y)) ∧ ∃ q os', w' = grow (W.drewN q) os' := by
  obtain ⟨⟨x1, x2⟩, ⟨⟨hx1, hx2⟩, hx3, hx4⟩⟩ := x
  obtain ⟨⟨y1, y2⟩, ⟨⟨hy1, hy2⟩, hy3, hy4⟩⟩ := y
  simp only at *
  by_cases he : x1 = y1
  · have hc := hid (show cfS ⟨(x1, x2), ⟨⟨hx1, hx2⟩, hx3, hx4⟩⟩ ⟨(y1, y2), ⟨⟨hy1, hy2⟩, hy3, hy4⟩⟩ = x2 - y2 by simp [cfS, he])
    rw [hc.out]
    subst he
    clear hc
    go_enter Tryz.func67, Tryz.ntmps67
    go_wp2_with fail
    go_ret
    exact ⟨rfl, 0, _, by rw [alloc_eq_grow, alloc_eq_grow, grow_grow]; rfl⟩
  · have hc := hid (show cfS ⟨(x1, x2), ⟨⟨hx1, hx2⟩, hx3, hx4⟩⟩ ⟨(y1, y2), ⟨⟨hy1, hy2⟩, hy3, hy4⟩⟩ = x1 - y1 by simp [cfS, he])
    rw [hc.out]
    have hne : (x1 != y1) = true := by simp [he]
    clear hc
    go_enter Tryz.func67, Tryz.ntmps67
    go_wp2_with fail
    go_ret
    exact ⟨rfl, 0, _, by rw [alloc_eq_grow, alloc_eq_grow, grow_grow]; rfl⟩
/-! ### The row, behind the sort -/
def encR (x : Sw) : List Value := [.int .i64 x.1.1, .int .i64 x.1.2]
theorem sw_list : ∀ (l : List Sh), (∀ x ∈ l, (0 ≤ x.1 ∧ x.1 ≤ 1000) ∧ 0 ≤ x.2 ∧ x.2 ≤ 1000) → ∃ d : List Sw, d.map (·.1) = l
  | [], _ => ⟨[], rfl⟩
  | x :: l, h => by
    obtain ⟨d, hd⟩ := sw_list l (fun y hy => h y (List.mem_cons_of_mem _ hy))
    exact ⟨⟨x, h x (List.mem_cons_self ..)⟩ :: d, by rw [List.map_cons, hd]⟩
theorem flatR (d : Array Sw) (j : Nat) (hj : j < d.size * 2) : (shRK.all (d.toList.map (·.1)))[j]? = some ((encR d[j / 2]!)[j % 2]!) := by
  have hk : j / 2 < d.size := (Nat.div_lt_iff_lt_mul (by omega)).2 hj
  have hm : j % 2 < 2 := Nat.mod_lt _ (by omega)
  have h := shRK.all_at (d.toList.map (·.1)) (j / 2) (by simpa using hk) (j % 2) hm
  have e : j / 2 * 2 + j % 2 = j := by omega
  rw [show shRK.size = 2 from rfl, e] at h
  rw [h, List.getElem_map]
  have e2 : d[j / 2]! = d.toList[j / 2]'(by simpa using hk) := by rw [getElem!_pos d _ hk]; simp
  rw [e2]
  have hl : (shRK.cs (d.toList[j / 2]'(by simpa using hk)).1).length = 2 := rfl
  rw [List.getElem?_eq_getElem (by rw [hl]; exact hm)]
  congr 1
  rw [getElem!_pos (encR _) _ (by simp [encR]; exact hm)]
  rfl
theorem own_holds {w : World} {base g n c : Nat} {d : Array Sw} (h : shRK.Own w base (.slice (some ⟨g, 0, none⟩) n c) (d.toList.map (·.1))) : HoldsK encR 2 w g 0 d := by
  intro j hj
  rw [size_flatK] at hj
  by_cases h0 : 0 < (d.toList.map (·.1)).length
  · obtain ⟨g', cap, cur, hv, hg, hb, hc, hm, hcell⟩ := own_cell h h0
    injection hv with hv _ _
    injection hv with hv
    injection hv with hv
    subst hv
    have hj2 : j < (d.toList.map (·.1)).length * 2 := by simpa using hj
    refine ⟨?_, hb.frozen _⟩
    rw [Nat.zero_add, hb.cell, hcell j hj2, get_flatK _ _ _ _ hj]
    exact flatR d j hj
  · have : d.size = 0 := by simpa using h0
    simp [this] at hj
theorem own_sorted {w : World} {base g n c : Nat} {l : List Sh} (h : shRK.Own w base (.slice (some ⟨g, 0, none⟩) n c) l) (d' : Array Sw) (hs : d'.size = l.length) (m : Nat) (os : Array Obj) :
    shRK.Own (sortWorldK encR 2 w g 0 m d' os) base (.slice (some ⟨g, 0, none⟩) n c) (d'.toList.map (·.1)) ∧ w.grownBy (sortWorldK encR 2 w g 0 m d' os) (some g) := by
  have hh := h.2
  rcases hh with ⟨hv, -⟩ | ⟨g', cap, cur, hv, hg, hb, hc, hm, hsz, ht⟩
  · cases hv
  injection hv with hv1 hv2 hv3
  injection hv1 with hv1
  injection hv1 with hv1
  subst hv1 hv3
  have hb : Blk w g 29 cur := hb
  have hglt := hb.lt
  have hheap : (sortWorldK encR 2 w g 0 m d' os).heap[g]? = some (.cells (putCells id 0 (flatK encR 2 d') cur) 29 (0, 0)) := by
    have hb' : w.heap[g]? = some (.cells cur 29 (0, 0)) := hb
    unfold sortWorldK grow putRowK putRow mapBlock Sort.ahead
    simp only
    rw [Array.getElem?_append_left (by simpa using hglt), Array.getElem?_modify, if_pos rfl, hb']
    rfl
  have hel : ∀ j, j < l.length * 2 → (putCells id 0 (flatK encR 2 d') cur)[j]? = (shRK.all (d'.toList.map (·.1)))[j]? := by
    intro j hj
    have hjd : j < d'.size * 2 := by rw [hs]; exact hj
    have hjc : j < cur.size := by rw [hsz]; exact Nat.lt_of_lt_of_le hj (Nat.mul_le_mul_right _ hc)
    unfold putCells
    rw [Array.getElem?_mapIdx, Array.getElem?_eq_getElem hjc, Option.map_some, if_pos ⟨Nat.zero_le _, by rw [size_flatK]; omega⟩, Nat.sub_zero, get_flatK _ _ _ _ hjd]
    exact (flatR d' j hjd).symm
  refine ⟨⟨shRK.all_len _, .inr ⟨g, c, putCells id 0 (flatK encR 2 d') cur, ?_, hg, hheap, ?_, hm, ?_, ?_⟩⟩, ?_⟩
  · rw [List.length_map, Array.length_toList, hs, hv2]
  · rw [List.length_map, Array.length_toList, hs]; exact hc
  · unfold putCells; rw [Array.size_mapIdx]; exact hsz
  · refine List.ext_getElem? fun j => ?_
    rw [List.length_map, show d'.toList.length = l.length by rw [Array.length_toList, hs]]
    by_cases hj : j < l.length * 2
    · rw [List.getElem?_take_of_lt (show j < l.length * shRK.size from hj), ← hel j hj]; simp
    · rw [List.getElem?_eq_none (by rw [List.length_take]; exact Nat.le_trans (Nat.min_le_left _ _) (by have : shRK.size = 2 := rfl; rw [this]; omega)), List.getElem?_eq_none (by rw [shRK.all_len, List.length_map, Array.length_toList, hs]; have : shRK.size = 2 := rfl; rw [this]; omega)]
  · refine ⟨rfl, rfl, rfl, ?_, fun k hk hne => ?_⟩
    · unfold sortWorldK; rw [size_grow]; unfold putRowK; rw [size_putRow]; exact Nat.le_add_right _ _
    · have hkg : ¬ g = k := fun e => hne (by rw [e])
      unfold sortWorldK grow putRowK putRow mapBlock Sort.ahead
      simp only
      rw [Array.getElem?_append_left (by simpa using hk), Array.getElem?_modify, if_neg hkg]
set_option maxRecDepth 100000 in
set_option maxHeartbeats 1000000 in
/-- slices.SortFunc, on a row of the call's own: the same shifts, in their order. -/
theorem sortsh_any (base g c : Nat) (l : List Sh) (w : World) (hl : l.length ≤ 1000000) (hin : ∀ x ∈ l, (0 ≤ x.1 ∧ x.1 ≤ 1000) ∧ 0 ≤ x.2 ∧ x.2 ≤ 1000) (h : shRK.Own w base (.slice (some ⟨g, 0, none⟩) l.length c) l) :
    Calls Tryz.prog 66 #[.slice (some ⟨g, 0, none⟩) l.length c, .func (.func 67) #[] #[]] w fun e w' => e = .returned (.tuple #[]) ∧ ∃ l' : List Sh, l'.Perm l ∧ l'.Pairwise (fun a b => ¬ (b.1 < a.1 ∨ b.1 = a.1 ∧ b.2 < a.2)) ∧ shRK.Own w' base (.slice (some ⟨g, 0, none⟩) l.length c) l' ∧ w.grownBy w' (some g) := by
  have eg : ∀ args w, (callFunc 67 args).run Tryz.prog w = .ok (.enter 67 args) w := enters_of Tryz.func67 (by kernel_rfl) rfl
  obtain ⟨d, rfl⟩ := sw_list l hin
  have hlt : g < w.heap.size := (World.ownsRow.lt h g rfl).2
  have hho : HoldsK encR 2 w g 0 d.toArray := own_holds (d := d.toArray) (by simpa using h)
  rw [List.length_map] at hl h ⊢
  have hcon := AnyQ.slices_SortFunc laysSort 2 Tryz.isAgg29 Tryz.sizeOf29 encR (fun _ => rfl) (fun x v hv => by simp [encR] at hv; rcases hv with rfl | rfl <;> rfl) cfS swoS 67 #[] g 0 c d.toArray w eg (fun _ _ _ _ x y => shcmp_ex x y _) hho hlt (by simp; omega)
  have e0 : d.toArray.size = d.length := by simp
  rw [e0] at hcon
  refine Calls.mono (show Calls Tryz.prog 66 _ _ _ from hcon) ?_
  rintro e w' ⟨rfl, d', m, os, hp, hsd, rfl⟩
  have hsz : d'.size = d.length := by rw [hp.1]; simp
  obtain ⟨h1, h2⟩ := own_sorted h d' (by simpa using hsz) m os
  refine ⟨rfl, d'.toList.map (·.1), ?_, ?_, h1, h2⟩
  · have := hp.2.2
    rw [Array.extract_eq_self_of_le (by omega), Array.extract_eq_self_of_le (by simp)] at this
    exact List.Perm.map _ (by simpa using this)
  · refine List.pairwise_iff_getElem.2 fun i j hi hj hij => ?_
    rw [List.length_map, Array.length_toList] at hi hj
    have := hsd i j (Nat.zero_le _) hij (by omega)
    rw [ltS, getElem!_pos d' _ hj, getElem!_pos d' _ hi] at this
    rw [List.getElem_map, List.getElem_map, Array.getElem_toList, Array.getElem_toList]
    exact of_decide_eq_false this
theorem sortnil_any (A : Option Addr) (c : Nat) (w : World) :
    Calls Tryz.prog 66 #[.slice A 0 c, .func (.func 67) #[] #[]] w fun e w' => e = .returned (.tuple #[]) ∧ w' = w :=
  AnyF.slices_SortFunc_none (P := Tryz.prog) (ρ := laysSort_ren) laysSort A c _ w
end Go.Proofs.YtgbgcmhmlnmklaaGreatDoor
namespace Go.Proofs.YtgbgcmhmlnmklaaGreatDoor
open Go.Shelf
def laysBs_ren : Go.Shelf.Ren := ⟨fun | 25 => 65 | 31 => 80 | 32 => 81 | 37 => 95 | n => n, fun | 22 => 22 | 3 => 3 | 4 => 4 | 40 => 97 | 0 => 0 | n => n, fun | n => n⟩
theorem laysBs : Go.Proofs.Lays2.n25 Tryz.prog laysBs_ren := {
  mixed := by kernel_rfl
  f25 := Tryz.func65.trans (congrArg some (by kernel_rfl))
  f31 := Tryz.func80.trans (congrArg some (by kernel_rfl))
  f32 := Tryz.func81.trans (congrArg some (by kernel_rfl))
  f37 := Tryz.func95.trans (congrArg some (by kernel_rfl))
  t0 := Tryz.underlying0
  a0 := Tryz.isAgg0
  z0 := Tryz.sizeOf0
  v0 := Tryz.zeroValue0
  t3 := Tryz.underlying3
  a3 := Tryz.isAgg3
  z3 := Tryz.sizeOf3
  v3 := Tryz.zeroValue3
  t4 := Tryz.underlying4
  a4 := Tryz.isAgg4
  z4 := Tryz.sizeOf4
  v4 := Tryz.zeroValue4
  t22 := Tryz.underlying22
  a22 := Tryz.isAgg22
  z22 := Tryz.sizeOf22
  v22 := Tryz.zeroValue22
  t40 := Tryz.underlying97
  a40 := Tryz.isAgg97
  z40 := Tryz.sizeOf97
  v40 := Tryz.zeroValue97 }
end Go.Proofs.YtgbgcmhmlnmklaaGreatDoor
namespace Go.Proofs.YtgbgcmhmlnmklaaGreatDoor
open Go.RowKit Go.IntWalk

def boxL (W H D : Int) : Prop := 1 ≤ W ∧ 1 ≤ H ∧ 1 ≤ D ∧ D ≤ 4 ∧ W ≤ 4096 ∧ H ≤ 4096
instance (W H D : Int) : Decidable (boxL W H D) := by unfold boxL; infer_instance
theorem box_whd {W H D : Int} (h : boxL W H D) : (1 ≤ W * H ∧ W * H ≤ 16777216) ∧ 1 ≤ W * H * D ∧ W * H * D ≤ 67108864 := by
  obtain ⟨w1, h1, d1, d4, w2, h2⟩ := h
  have a1 : 1 ≤ W * H := by have := Int.mul_le_mul w1 h1 (by decide) (by omega); simpa using this
  have a2 : W * H ≤ 16777216 := by have := Int.mul_le_mul w2 h2 (by omega) (by decide); simpa using this
  have a3 : 1 ≤ W * H * D := by have := Int.mul_le_mul a1 d1 (by decide) (by omega); simpa using this
  have a4 : W * H * D ≤ 16777216 * 4 := Int.mul_le_mul a2 d4 (by omega) (by decide)
  exact ⟨⟨a1, a2⟩, a3, by omega⟩
set_option maxRecDepth 100000 in
set_option maxHeartbeats 400000 in
theorem size_big (W H D : Int) (Ak Ao : Option Addr) (ck co : Nat) (kind out : List Int) (w : World) (h : boxL W H D) :
    Calls Tryz.prog 62 #[.agg #[.int .i64 W, .int .i64 H, .int .i64 D, .slice Ak kind.length ck, .slice Ao out.length co]] w fun e w' => e = .returned (.int .i64 (W * H * D)) ∧ Below w.heap.size w w' := by
  obtain ⟨⟨a1, a2⟩, a3, a4⟩ := box_whd h
  clear h
  go_enter Tryz.func62, Tryz.ntmps62
  go_wp2_with fail
  go_ret
  exact ⟨rfl, by (repeat (first | exact Below.refl _ _ | assumption | refine below_drewN ?_ _ | refine Below.drew ?_ | refine Below.alloc ?_ (by (try simp); (try omega)) _ | refine Below.setCell ?_ (by (try simp); (try omega)) _))⟩
set_option maxRecDepth 100000 in
set_option maxHeartbeats 4000000 in
theorem fright_any (W H D : Int) (Ak Ao : Option Addr) (ck co : Nat) (kind out : List Int) (w : World) (hkl : kind.length ≤ maxLen) (hol : out.length ≤ maxLen) (hk : SlR w w.heap.size Ak kind) (ho : SlR w w.heap.size Ao out) :
    Calls Tryz.prog 50 #[.agg #[.int .i64 W, .int .i64 H, .int .i64 D, .slice Ak kind.length ck, .slice Ao out.length co]] w fun e w' => e = .returned (.bool (refR W H D kind out)) ∧ Below w.heap.size w w' := by
  unfold maxLen at hkl hol
  obtain ⟨w1, hw1⟩ : ∃ w1, w1 = (w.alloc (Obj.cells #[Value.int .i64 W, Value.int .i64 H, Value.int .i64 D, Value.slice Ak kind.length ck, Value.slice Ao out.length co] 24)) := ⟨_, rfl⟩
  have B1 := hid (show Below w.heap.size w w1 by rw [hw1]; (repeat (first | exact Below.refl _ _ | assumption | refine below_drewN ?_ _ | refine Below.drew ?_ | refine Below.alloc ?_ (by (try simp); (try omega)) _ | refine Below.setCell ?_ (by (try simp); (try omega)) _)))
  have X1 := hid (show Blk w1 w.heap.size 24 #[Value.int .i64 W, Value.int .i64 H, Value.int .i64 D, Value.slice Ak kind.length ck, Value.slice Ao out.length co] by rw [hw1]; exact Blk.new w _ _)
  obtain ⟨k0, k1, k2, k3, k4⟩ := blk5 X1.out
  have xz := X1.out.lt
  have HK := hid hk; have HO := hid ho
  clear hk ho
  go_enter Tryz.func50, Tryz.ntmps50
  go_upto_region 1 with fail
  rw [← hw1]
  clear hw1
  go_cut [26] (fun s wx => s = .bool (decide (¬ (1 ≤ W ∧ 1 ≤ H ∧ 1 ≤ D ∧ D ≤ 4 ∧ W ≤ 4096 ∧ H ≤ 4096))) ∧ wx = w1)
  case first =>
    go_wp2_with fail
    all_goals go_meet
    all_goals (refine ⟨congrArg Value.bool ?_, rfl⟩; rw [Bool.eq_iff_iff]; simp only [Bool.or_eq_true, decide_eq_true_eq, eq_self, true_iff]; omega)
  case rest =>
    obtain ⟨rfl, rfl⟩ := hcut
    by_cases hbx : boxL W H D
    · have HBX := hid hbx
      have hd : decide (¬ (1 ≤ W ∧ 1 ≤ H ∧ 1 ≤ D ∧ D ≤ 4 ∧ W ≤ 4096 ∧ H ≤ 4096)) = false := decide_eq_false (fun h => h hbx)
      rw [hd]
      obtain ⟨-, n1, n2⟩ := box_whd hbx
      clear hd hbx
      have HSZ := hid (size_big W H D Ak Ao ck co kind out wc HBX.out)
      go_wp2_with fail
      refine HSZ.out.mono ?_
      rintro e v1 ⟨rfl, hB⟩
      have BX := (X1.out).below hB X1.out.lt
      have B2 := hid (B1.out.trans (hB.mono B1.out.size))
      have hs1 := hid (hB.size)
      have HKr := hid (HK.out.below B2.out)
      have HOr := hid (HO.out.below B2.out)
      clear hB k0 k1 k2 k3 k4 xz
      obtain ⟨k0, k1, k2, k3, k4⟩ := blk5 BX
      have xz := BX.lt
      clear BX HK HO HSZ
      have hrf := hid (fun (h : refR W H D kind out = true) => refR_iff.1 h)
      have hfalse := hid (fun (h : ¬ (W * H * D ≤ 4096 ∧ (kind.length : Int) = W * H * D ∧ (out.length : Int) = W * H * D)) => show refR W H D kind out = false from by
        cases hq : refR W H D kind out with
        | false => rfl
        | true =>
          have := refR_iff.1 hq
          exact absurd ⟨this.s.n, this.k, this.o⟩ h)
      have htail := hid (fun (h1 : W * H * D ≤ 4096) (h2 : (kind.length : Int) = W * H * D) (h3 : (out.length : Int) = W * H * D) => show refR W H D kind out = tailR kind out 0 from by
        obtain ⟨w1, h1', d1, d4, w2, h2'⟩ := HBX.out
        unfold refR tailR
        rw [decide_eq_true (show _ from ⟨w1, h1', d1, d4, w2, h2', h1, h2, h3⟩)]
        rfl)
      clear hrf
      generalize W * H * D = M at *
      by_cases c1 : 4096 < M
      · as_aux_lemma =>
          go_wp2_with fail
          go_ret
          exact ⟨ret_bool (hfalse.out (by omega)).symm, B2.out⟩
      by_cases c2 : (kind.length : Int) = M
      case neg =>
        have c2b : ((kind.length : Int) != M) = true := by simp [c2]
        as_aux_lemma =>
          go_wp2_with fail
          go_ret
          exact ⟨ret_bool (hfalse.out (fun h => c2 h.2.1)).symm, B2.out⟩
      by_cases c3 : (out.length : Int) = M
      case neg =>
        have c2b : ((kind.length : Int) != M) = false := by simp [c2]
        have c3b : ((out.length : Int) != M) = true := by simp [c3]
        have C2 := hid c2
        clear c2
        as_aux_lemma =>
          go_wp2_with fail
          go_ret
          exact ⟨ret_bool (hfalse.out (fun h => c3 h.2.2)).symm, B2.out⟩
      have hT := hid (htail.out (by omega) c2 c3)
      have c2b : ((kind.length : Int) != M) = false := by simp [c2]
      have c3b : ((out.length : Int) != M) = false := by simp [c3]
      have C2 := hid c2; have C3 := hid c3
      have hkl4 : kind.length ≤ 4096 := by omega
      have hko : kind.length ≤ out.length := by omega
      have hok : out.length ≤ kind.length := by omega
      have hok2 := hid hok
      clear c2 c3 htail hfalse hok
      go_upto_region 7 with fail
      clear c2b c3b
      go_loopw [48] (fun i wr => ∃ k : Nat, k ≤ kind.length ∧ i = .int .i64 k ∧ tailR kind out 0 = tailR kind out k ∧ v1 = wr) (fun i _ => kind.length - (intOf i).toNat)
      case atStart => exact ⟨0, by omega, rfl, rfl, rfl⟩
      case round =>
        obtain ⟨k, hk, rfl, htl, rfl⟩ := hrel
        have HTL := hid htl
        clear htl
        by_cases hlt : k < kind.length
        case pos =>
          have hlo : k < out.length := by omega
          have i1 : (k : Int) < kind.length := by omega
          have i2 : (k : Int) < out.length := by omega
          obtain ⟨b, off, rfl, hbB, g1, _⟩ := HKr.out.int hlt
          obtain ⟨b', off', rfl, hbB', g2, _⟩ := HOr.out.int hlo
          have hst := hid (tailR_step hlt hlo)
          generalize kind[k] = x at *
          generalize out[k] = y at *
          by_cases hx : x < 0
          · have hr := hid (show refR W H D kind out = false by rw [hT.out, HTL.out, hst.out]; have : okK x = false := decide_eq_false (by omega); simp [this])
            as_aux_lemma =>
              go_wp2_with fail
              go_ret
              exact ⟨ret_bool hr.out.symm, B2.out⟩
          by_cases hx7 : 7 ≤ x
          · have hr := hid (show refR W H D kind out = false by rw [hT.out, HTL.out, hst.out]; have : okK x = false := decide_eq_false (by omega); simp [this])
            as_aux_lemma =>
              go_wp2_with fail
              go_ret
              exact ⟨ret_bool hr.out.symm, B2.out⟩
          by_cases hy : y < 0
          · have hr := hid (show refR W H D kind out = false by rw [hT.out, HTL.out, hst.out]; have : okO y = false := decide_eq_false (by omega); simp [this])
            as_aux_lemma =>
              go_wp2_with fail
              go_ret
              exact ⟨ret_bool hr.out.symm, B2.out⟩
          by_cases hy6 : 63 < y
          · have hr := hid (show refR W H D kind out = false by rw [hT.out, HTL.out, hst.out]; have : okO y = false := decide_eq_false (by omega); simp [this])
            as_aux_lemma =>
              go_wp2_with fail
              go_ret
              exact ⟨ret_bool hr.out.symm, B2.out⟩
          have hr := hid (show tailR kind out 0 = tailR kind out (k + 1) by rw [HTL.out, hst.out]; have h1 : okK x = true := decide_eq_true (by omega); have h2 : okO y = true := decide_eq_true (by omega); simp [h1, h2])
          as_aux_lemma =>
            go_wp2_with fail
            go_roundw
            case rel => exact ⟨k + 1, by omega, by go_num, hr.out, by first | rfl | trivial⟩
            case measure => simp [intOf]; omega
        case neg =>
          have hr := hid (show refR W H D kind out = true by rw [hT.out, HTL.out]; exact tailR_end (by omega) (by have := hok2.out; omega))
          as_aux_lemma =>
            go_wp2_with fail
            go_ret
            exact ⟨ret_bool hr.out.symm, B2.out⟩
    · have hd : decide (¬ (1 ≤ W ∧ 1 ≤ H ∧ 1 ≤ D ∧ D ≤ 4 ∧ W ≤ 4096 ∧ H ≤ 4096)) = true := decide_eq_true hbx
      rw [hd]
      have hr := hid (show refR W H D kind out = false from by
        cases hq : refR W H D kind out with
        | false => rfl
        | true =>
          have := refR_iff.1 hq
          exact absurd ⟨this.s.w1, this.s.h1, this.s.d1, this.s.d2, this.s.w2, this.s.h2⟩ hbx)
      clear hd hbx
      go_wp2_with fail
      go_ret
      exact ⟨ret_bool hr.out.symm, B1.out⟩
/-! ### Regions -/
def ascR : Int → List Int → Bool
  | _, [] => true
  | last, x :: r => decide (last < x) && decide (x < 4096) && ascR x r
def regN (r : List Int) : Bool := ascR (-1) r
def lastR (l : List Int) (k : Nat) : Int := if k = 0 then -1 else l.getD (k - 1) 0
theorem lastR_succ (l : List Int) (k : Nat) (hk : k < l.length) : lastR l (k + 1) = l[k] := by simp [lastR, hk]
theorem dropR_cons {α : Type} (l : List α) (k : Nat) (hk : k < l.length) : l.drop k = l[k] :: l.drop (k + 1) := by rw [List.drop_eq_getElem_cons hk]
theorem ascR_mem : ∀ {l : List Int} {last : Int}, ascR last l = true → ∀ x ∈ l, last < x ∧ x < 4096
  | x :: r, last, h, y, hy => by
    simp only [ascR, Bool.and_eq_true, decide_eq_true_eq] at h
    rcases List.mem_cons.1 hy with rfl | hy
    · exact ⟨h.1.1, h.1.2⟩
    · have := ascR_mem h.2 y hy; omega
theorem ascR_pw : ∀ {l : List Int} {last : Int}, ascR last l = true → l.Pairwise (· < ·)
  | [], _, _ => List.Pairwise.nil
  | x :: r, last, h => by
    simp only [ascR, Bool.and_eq_true, decide_eq_true_eq] at h
    exact List.pairwise_cons.2 ⟨fun y hy => (ascR_mem h.2 y hy).1, ascR_pw h.2⟩
set_option maxRecDepth 100000 in
set_option maxHeartbeats 2000000 in
theorem region_any (A : Option Addr) (c : Nat) (l : List Int) (w : World) (hl : l.length ≤ maxLen) (h : SlR w w.heap.size A l) :
    Calls Tryz.prog 51 #[.slice A l.length c] w fun e w' => e = .returned (.bool (regN l)) ∧ Below w.heap.size w w' := by
  unfold maxLen at hl
  have HC := hid isCell_any
  go_enter Tryz.func51, Tryz.ntmps51
  go_wp2_with fail
  go_loopw [7] (fun i wr => ∃ k : Nat, k ≤ l.length ∧ i = .int .i64 k ∧ w = wr ∧ ascR (-1) l = ascR (lastR l k) (l.drop k) ∧ -1 ≤ lastR l k) (fun i _ => l.length - (intOf i).toNat)
  case atStart => exact ⟨0, by omega, rfl, rfl, by simp [lastR], by simp [lastR]⟩
  case round =>
    obtain ⟨k, hk, rfl, rfl, ha, hlo⟩ := hrel
    have HA := hid ha
    have HLO := hid hlo
    clear ha hlo
    by_cases hlt : k < l.length
    · have hlt' : (k : Int) < l.length := by omega
      obtain ⟨b, off, rfl, hb, hc0, hi0⟩ := h.int hlt
      have HST := hid (show ascR (lastR l k) (l.drop k) = (decide (lastR l k < l[k]) && decide (l[k] < 4096) && ascR l[k] (l.drop (k + 1))) by rw [dropR_cons l k hlt]; rfl)
      have HL := hid (lastR_succ l k hlt)
      have hprev : 0 < k → w.cell? ⟨b, off + (k - 1), none⟩ = some (.int .i64 (lastR l k)) := fun h0 => by
        have := h.int_at (k := k - 1) (by omega)
        rw [this]; simp [lastR, show ¬ k = 0 by omega, show k - 1 < l.length by omega]
      have hk0 : k = 0 → lastR l k = -1 := fun e => by simp [lastR, e]
      have hcx := hid (HC.out l[k] w)
      generalize l[k] = x at *
      generalize lastR l k = y at *
      clear hi0
      by_cases hin : 0 ≤ x ∧ x < 4096
      case neg =>
        rw [decide_eq_false hin] at hcx
        have hr := hid (show regN l = false by unfold regN; rw [HA.out, HST.out]; have := HLO.out; have h9 : (decide (y < x) && decide (x < 4096)) = false := (by rw [Bool.and_eq_false_iff, decide_eq_false_iff_not, decide_eq_false_iff_not]; omega); rw [h9]; rfl)
        clear hprev hk0
        as_aux_lemma =>
          go_wp2_with fail
          refine hcx.out.mono ?_
          rintro e v ⟨rfl, rfl⟩
          go_wp2_with fail
          go_ret
          exact ⟨ret_bool hr.out.symm, Below.refl _ _⟩
      rw [decide_eq_true hin] at hcx
      obtain ⟨hx0, hx4⟩ := hin
      by_cases hz : 0 < k
      · have hz' : (0 : Int) < k := by omega
        have hcp := hprev hz
        obtain ⟨j, rfl⟩ : ∃ j, k = j + 1 := ⟨k - 1, by omega⟩
        simp only [Nat.add_sub_cancel] at hcp
        clear hprev hk0
        by_cases hle : x ≤ y
        · have hr := hid (show regN l = false by unfold regN; rw [HA.out, HST.out]; have h9 : ¬ y < x := (by omega); simp [h9])
          as_aux_lemma =>
            go_wp2_with fail
            refine hcx.out.mono ?_
            rintro e v ⟨rfl, rfl⟩
            go_wp2_with fail
            go_ret
            exact ⟨ret_bool hr.out.symm, Below.refl _ _⟩
        · as_aux_lemma =>
            go_wp2_with fail
            refine hcx.out.mono ?_
            rintro e v ⟨rfl, rfl⟩
            go_wp2_with fail
            go_roundw
            case rel => exact ⟨j + 1 + 1, by omega, by go_num, by first | trivial | rfl, by rw [HA.out, HST.out, HL.out]; have h1 : y < x := (by omega); simp [h1, hx4], by rw [HL.out]; omega⟩
            case measure => simp [intOf]; omega
      · have hk9 : k = 0 := by omega
        have hy := hk0 hk9
        subst hk9
        clear hprev hk0
        simp only [Nat.add_zero] at hc0
        as_aux_lemma =>
          go_wp2_with fail
          refine hcx.out.mono ?_
          rintro e v ⟨rfl, rfl⟩
          go_wp2_with fail
          go_roundw
          case rel => exact ⟨1, by omega, by go_num, by first | trivial | rfl, by rw [HA.out, HST.out, HL.out]; have h1 : y < x := (by omega); simp [h1, hx4], by rw [HL.out]; omega⟩
          case measure => simp [intOf]; omega
    · obtain rfl : k = l.length := by omega
      go_wp2_with fail
      go_ret
      exact ⟨ret_bool (by unfold regN; rw [HA.out]; simp [ascR]), Below.refl _ _⟩
/-! ### given -/
def givenN (W H D : Int) (kind out r : List Int) (l : List Bool) (t : Int) : Bool := (decide (kind.length ≤ 60) && decide (out.length ≤ 60)) && decide (r.length ≤ 24) && rightL l t && decide (r.length = l.length) && refR W H D kind out && regN r
set_option maxRecDepth 100000 in
theorem few_any (W H D : Int) (Ak Ao : Option Addr) (ck co : Nat) (kind out : List Int) (n : Int) (w : World) (hkl : kind.length ≤ maxLen) (hol : out.length ≤ maxLen) :
    Calls Tryz.prog 49 #[.agg #[.int .i64 W, .int .i64 H, .int .i64 D, .slice Ak kind.length ck, .slice Ao out.length co], .int .i64 n] w fun e w' => e = .returned (.bool (decide ((kind.length : Int) ≤ n) && decide ((out.length : Int) ≤ n))) ∧ Below w.heap.size w w' := by
  unfold maxLen at hkl hol
  by_cases h1 : (kind.length : Int) ≤ n
  · by_cases h2 : (out.length : Int) ≤ n
    · go_enter Tryz.func49, Tryz.ntmps49
      go_wp2_with fail
      go_ret
      exact ⟨ret_bool (by simp [h1, h2]), by (repeat (first | exact Below.refl _ _ | assumption | refine below_drewN ?_ _ | refine Below.drew ?_ | refine Below.alloc ?_ (by (try simp); (try omega)) _ | refine Below.setCell ?_ (by (try simp); (try omega)) _))⟩
    · go_enter Tryz.func49, Tryz.ntmps49
      go_wp2_with fail
      go_ret
      exact ⟨ret_bool (by simp [h1, h2]), by (repeat (first | exact Below.refl _ _ | assumption | refine below_drewN ?_ _ | refine Below.drew ?_ | refine Below.alloc ?_ (by (try simp); (try omega)) _ | refine Below.setCell ?_ (by (try simp); (try omega)) _))⟩
  · go_enter Tryz.func49, Tryz.ntmps49
    go_wp2_with fail
    go_ret
    exact ⟨ret_bool (by simp; omega), by (repeat (first | exact Below.refl _ _ | assumption | refine below_drewN ?_ _ | refine Below.drew ?_ | refine Below.alloc ?_ (by (try simp); (try omega)) _ | refine Below.setCell ?_ (by (try simp); (try omega)) _))⟩
set_option maxRecDepth 100000 in
set_option maxHeartbeats 4000000 in
theorem given_any (W H D : Int) (Ak Ao : Option Addr) (ck co : Nat) (kind out : List Int) (Ar Al : Option Addr) (cr cl : Nat) (r : List Int) (l : List Bool) (t : Int) (w : World) (hkl : kind.length ≤ maxLen) (hol : out.length ≤ maxLen) (hrl : r.length ≤ maxLen) (hll : l.length ≤ maxLen)
    (hk : SlR w w.heap.size Ak kind) (ho : SlR w w.heap.size Ao out) (hr : SlR w w.heap.size Ar r) (hL : SlR w w.heap.size Al l) :
    Calls Tryz.prog 23 #[.agg #[.int .i64 W, .int .i64 H, .int .i64 D, .slice Ak kind.length ck, .slice Ao out.length co], .slice Ar r.length cr, .agg #[.slice Al l.length cl, .int .i64 t]] w fun e w' => e = .returned (.bool (givenN W H D kind out r l t)) ∧ Below w.heap.size w w' := by
  obtain ⟨w1, hw1⟩ : ∃ w1, w1 = ((w.alloc (Obj.cells #[Value.int .i64 W, Value.int .i64 H, Value.int .i64 D, Value.slice Ak kind.length ck, Value.slice Ao out.length co] 24)).alloc (Obj.cells #[.slice Al l.length cl, .int .i64 t] 27)) := ⟨_, rfl⟩
  have B1 := hid (show Below w.heap.size w w1 by rw [hw1]; (repeat (first | exact Below.refl _ _ | assumption | refine below_drewN ?_ _ | refine Below.drew ?_ | refine Below.alloc ?_ (by (try simp); (try omega)) _ | refine Below.setCell ?_ (by (try simp); (try omega)) _)))
  have X1 := (show Blk w1 w.heap.size 24 #[Value.int .i64 W, Value.int .i64 H, Value.int .i64 D, Value.slice Ak kind.length ck, Value.slice Ao out.length co] by rw [hw1]; exact (Blk.new w _ _).alloc _)
  have X2 := (show Blk w1 (w.heap.size + 1) 27 #[.slice Al l.length cl, .int .i64 t] by rw [hw1]; exact Blk.new_at (by simp))
  have HX := hid (fun (W' : World) (hW : Below w1.heap.size w1 W') => And.intro (blk5 (X1.below hW X1.lt)) (And.intro (show W'.cell? ⟨w.heap.size + 1, 0, none⟩ = some (.slice Al l.length cl) from (bcell hW _ _ X2.lt).trans (by rw [X2.cell]; rfl)) (And.intro (show W'.cell? ⟨w.heap.size + 1, 1, none⟩ = some (.int .i64 t) from (bcell hW _ _ X2.lt).trans (by rw [X2.cell]; rfl)) (And.intro (Nat.lt_of_lt_of_le X1.lt hW.size) (Nat.lt_of_lt_of_le X2.lt hW.size)))))
  have HF := hid (few_any W H D Ak Ao ck co kind out 60 w1 hkl hol)
  have HR := hid (fun (W' : World) (hW : Below w1.heap.size w1 W') => right_any Al cl l t W' hll ((hL.below (B1.out.trans (hW.mono B1.out.size))).more (B1.out.trans (hW.mono B1.out.size)).size))
  have HFR := hid (fun (W' : World) (hW : Below w1.heap.size w1 W') => fright_any W H D Ak Ao ck co kind out W' hkl hol ((hk.below (B1.out.trans (hW.mono B1.out.size))).more (B1.out.trans (hW.mono B1.out.size)).size) ((ho.below (B1.out.trans (hW.mono B1.out.size))).more (B1.out.trans (hW.mono B1.out.size)).size))
  have HRG := hid (fun (W' : World) (hW : Below w1.heap.size w1 W') => region_any Ar cr r W' hrl ((hr.below (B1.out.trans (hW.mono B1.out.size))).more (B1.out.trans (hW.mono B1.out.size)).size))
  have HG := hid (show givenN W H D kind out r l t = ((decide (kind.length ≤ 60) && decide (out.length ≤ 60)) && decide (r.length ≤ 24) && rightL l t && decide (r.length = l.length) && refR W H D kind out && regN r) from rfl)
  have hfe : (decide ((kind.length : Int) ≤ 60) && decide ((out.length : Int) ≤ 60)) = (decide (kind.length ≤ 60) && decide (out.length ≤ 60)) := by congr 1 <;> exact decide_eq_decide.2 (by omega)
  rw [hfe] at HF
  unfold maxLen at hrl hll
  clear hfe hkl hol hk ho hr hL X1 X2
  generalize (decide (kind.length ≤ 60) && decide (out.length ≤ 60)) = f1 at *
  generalize rightL l t = f2 at *
  generalize refR W H D kind out = f3 at *
  generalize regN r = f4 at *
  generalize givenN W H D kind out r l t = G at *
  go_enter Tryz.func23, Tryz.ntmps23
  go_upto_region 1 with fail
  rw [← hw1]
  clear hw1
  obtain ⟨⟨k0, k1, k2, k3, k4⟩, l0, l1, xz, lz⟩ := HX.out w1 (Below.refl _ _)
  cases f1 with
  | false =>
    as_aux_lemma =>
      go_wp2_with fail
      refine HF.out.mono ?_
      rintro e v1 ⟨rfl, hB⟩
      have BV := hid (B1.out.trans (hB.mono B1.out.size))
      clear hB
      go_wp2_with fail
      go_ret
      exact ⟨ret_bool (by rw [HG.out]; simp), BV.out⟩
  | true =>
  go_wp2_with fail
  refine HF.out.mono ?_
  rintro e v1 ⟨rfl, hB⟩
  have B2 := hid hB
  clear hB k0 k1 k2 k3 k4 l0 l1 xz lz
  obtain ⟨⟨k0, k1, k2, k3, k4⟩, l0, l1, xz, lz⟩ := HX.out v1 B2.out
  by_cases h24 : (24 : Int) < r.length
  · as_aux_lemma =>
      go_wp2_with fail
      go_ret
      exact ⟨ret_bool (by rw [HG.out]; have : ¬ r.length ≤ 24 := (by omega); simp [this]), B1.out.trans (B2.out.mono B1.out.size)⟩
  have h24' : r.length ≤ 24 := by omega
  have HR2 := hid (HR.out v1 B2.out)
  cases f2 with
  | false =>
    as_aux_lemma =>
      go_wp2_with fail
      refine HR2.out.mono ?_
      rintro e v2 ⟨rfl, hB⟩
      have BV := hid (B1.out.trans ((B2.out.trans (hB.mono B2.out.size)).mono B1.out.size))
      clear hB
      go_wp2_with fail
      go_ret
      exact ⟨ret_bool (by rw [HG.out]; simp), BV.out⟩
  | true =>
  go_wp2_with fail
  refine HR2.out.mono ?_
  rintro e v2 ⟨rfl, hB⟩
  have B3 := hid (B2.out.trans (hB.mono B2.out.size))
  clear hB HR2 k0 k1 k2 k3 k4 l0 l1 xz lz
  obtain ⟨⟨k0, k1, k2, k3, k4⟩, l0, l1, xz, lz⟩ := HX.out v2 B3.out
  by_cases hrl2 : r.length = l.length
  case neg =>
    have hne : ((r.length : Int) != (l.length : Int)) = true := by simp; omega
    as_aux_lemma =>
      go_wp2_with fail
      go_ret
      exact ⟨ret_bool (by rw [HG.out]; simp [hrl2]), B1.out.trans (B3.out.mono B1.out.size)⟩
  have hne : ((r.length : Int) != (l.length : Int)) = false := by simp [hrl2]
  have HRL := hid hrl2
  have HFR3 := hid (HFR.out v2 B3.out)
  clear hrl2
  cases f3 with
  | false =>
    as_aux_lemma =>
      go_wp2_with fail
      refine HFR3.out.mono ?_
      rintro e v3 ⟨rfl, hB⟩
      have BV := hid (B1.out.trans ((B3.out.trans (hB.mono B3.out.size)).mono B1.out.size))
      clear hB
      go_wp2_with fail
      go_ret
      exact ⟨ret_bool (by rw [HG.out]; simp), BV.out⟩
  | true =>
  go_wp2_with fail
  refine HFR3.out.mono ?_
  rintro e v3 ⟨rfl, hB⟩
  have B4 := hid (B3.out.trans (hB.mono B3.out.size))
  clear hB HFR3 k0 k1 k2 k3 k4 l0 l1 xz lz
  have HR4 := hid (HRG.out v3 B4.out)
  go_wp2_with fail
  refine HR4.out.mono ?_
  rintro e v4 ⟨rfl, hB⟩
  have BV := hid (B1.out.trans ((B4.out.trans (hB.mono B4.out.size)).mono B1.out.size))
  clear hB
  go_wp2_with fail
  go_ret
  have a1 : decide (r.length ≤ 24) = true := decide_eq_true h24'
  have a2 : decide (r.length = l.length) = true := decide_eq_true HRL.out
  exact ⟨ret_bool (by rw [HG.out, a1, a2]; simp), BV.out⟩
end Go.Proofs.YtgbgcmhmlnmklaaGreatDoor
namespace Go.Proofs.YtgbgcmhmlnmklaaGreatDoor
open Go.RowKit Go.IntWalk Go.Shelf

theorem count_at : ∀ {r : List Int}, r.Pairwise (· < ·) → ∀ k (hk : k < r.length), r.countP (fun y => decide (y < r[k])) = k
  | x :: r, h, 0, _ => by
    obtain ⟨h1, _⟩ := List.pairwise_cons.1 h
    simp only [List.getElem_cons_zero]
    rw [List.countP_eq_zero]
    intro y hy
    rcases List.mem_cons.1 hy with rfl | hy
    · simp
    · have := h1 y hy; simp; omega
  | x :: r, h, k + 1, hk => by
    obtain ⟨h1, h2⟩ := List.pairwise_cons.1 h
    have ih := count_at h2 k (by simpa using hk)
    simp only [List.getElem_cons_succ]
    rw [List.countP_cons_of_pos (by simpa using h1 _ (List.getElem_mem (by simpa using hk))), ih]
/-- slices.BinarySearch over a region. -/
theorem bs_any (A : Option Addr) (c : Nat) (r : List Int) (x : Int) (w : World) (hl : r.length ≤ 24) (h : SlR w w.heap.size A r) (hp : r.Pairwise (· < ·)) :
    Calls Tryz.prog 65 #[.slice A r.length c, .int .i64 x] w fun e w' => e = .returned (.tuple #[.int .i64 (r.countP (fun y => decide (y < x)) : Nat), .bool (r.contains x)]) ∧ Below w.heap.size w w' := by
  by_cases h0 : 0 < r.length
  · obtain ⟨b, off, rfl, _⟩ := h.int h0
    have := Any.slices_BinarySearch_int laysBs b off r.length c r x w (Nat.le_refl _) (by omega) (fun j hj => by
      rw [h.int_at hj, List.getD_eq_getElem?_getD, List.getElem?_eq_getElem hj]; rfl) (by rw [List.take_length]; exact hp.imp (fun h => by omega))
    rw [List.take_length] at this
    exact this.mono (fun e w' ⟨he, q, hq⟩ => ⟨he, hq ▸ below_drewN (Below.refl _ _) q⟩)
  · have e : r = [] := List.eq_nil_of_length_eq_zero (by omega)
    subst e
    exact (Any.slices_BinarySearch_int_empty laysBs A c x w).mono (fun e w' ⟨he, hq⟩ => ⟨by rw [he]; rfl, hq ▸ Below.refl _ _⟩)
set_option maxRecDepth 100000 in
set_option maxHeartbeats 4000000 in
set_option maxRecDepth 100000 in
/-- slices.Compact of a list in which no element stands twice in a row: the list itself. -/
theorem compact_any (A : Option Addr) (c : Nat) (l : List Sh) (w : World) (hl : l.length ≤ 1000000) (h : SlR w w.heap.size A l) (hd : l.Nodup) :
    Calls Tryz.prog 68 #[.slice A l.length c] w fun e w' => e = .returned (.slice A l.length c) ∧ Below w.heap.size w w' := by
  by_cases h2 : l.length < 2
  · have h2i : (l.length : Int) < 2 := by omega
    go_enter Tryz.func68, Tryz.ntmps68
    go_wp2_with fail
    go_ret
    exact ⟨rfl, Below.refl _ _⟩
  have h2i : ¬ (l.length : Int) < 2 := by omega
  have HD := hid hd
  have H := hid h
  clear hd h
  go_enter Tryz.func68, Tryz.ntmps68
  go_upto_region 4 with fail
  go_loopw [3] (fun v wr => ∃ i : Nat, 1 ≤ i ∧ i ≤ l.length ∧ v = .int .i64 (i : Nat) ∧ Below w.heap.size w wr) (fun v _ => l.length - (intOf v).toNat)
  case atStart => exact ⟨1, by omega, by omega, rfl, Below.refl _ _⟩
  case round =>
    obtain ⟨i, hi1, hi, rfl, hB⟩ := hrel
    have HB := hid hB
    clear hB
    by_cases hlt : i < l.length
    · have hlt' : (i : Int) < l.length := by omega
      obtain ⟨j, hj⟩ : ∃ j, i = j + 1 := ⟨i - 1, by omega⟩
      have hlk : (j : Int) < l.length := by omega
      have hjl : j < l.length := by omega
      obtain ⟨b, off, hA, hb, g0, g1, -, -⟩ := H.out.sh hlt
      obtain ⟨b', off', hA', hb', p0, p1, -, -⟩ := H.out.sh hjl
      rw [hA] at hA'
      injection hA' with hA'
      injection hA' with e1 e2 _
      subst e1 e2 hA
      have hne : l[i] ≠ l[j] := fun e => by
        have := (List.pairwise_iff_getElem.1 HD.out) j i hjl hlt (by omega)
        exact this e.symm
      replace g0 := (bcell HB.out _ _ hb).trans g0
      replace g1 := (bcell HB.out _ _ hb).trans g1
      replace p0 := (bcell HB.out _ _ hb).trans p0
      replace p1 := (bcell HB.out _ _ hb).trans p1
      have hz : b < wr.heap.size := by have := HB.out.size; omega
      have hsub : IntKind.i64.wrap ((i : Int) - 1) = (j : Int) := by rw [IntKind.wrap_i64]; omega
      have HJ := hid hj
      have HI1 := hid hi1
      clear hj hi1
      generalize l[i] = y at *
      generalize l[j] = x at *
      obtain ⟨y1, y2⟩ := y
      obtain ⟨x1, x2⟩ := x
      simp only at g0 g1 p0 p1
      have HNE := hid hne
      clear hne
      have HSF := hid (fun (wq : World) (hq : Below wr.heap.size wr wq) => And.intro ((bcell hq _ _ hz).trans g0) (And.intro ((bcell hq _ _ hz).trans g1) (And.intro ((bcell hq _ _ hz).trans p0) ((bcell hq _ _ hz).trans p1))))
      have BD := hid ((Below.refl wr.heap.size wr).drew)
      go_upto_region 6 with fail
      refine wpIn_wide.1 (wpIn_region_S (n := 0) (fun wq => Below wr.heap.size wr wq) [] (by kernel_rfl) BD.out (fun hHeld => ?_))
      generalize wr.drew = wd at *
      by_cases e1 : y1 = x1
      · have e2 : ¬ y2 = x2 := fun e => HNE.out (by rw [e1, e])
        subst e1
        refine wpAnyG_pure 0 (v := ?_) (fun _ => trivial) (by simp only [List.getElem?_toArray, List.getElem?_cons_succ, List.getElem?_cons_zero]; rfl) (by kernel_rfl) (fun _ _ _ _ _ h => h) ⟨(by rfl), (by intro c h; cases h), ?_⟩ hHeld ?_
        rotate_left
        focus (intro wS hSw; (try replace hSw := HSF.out wS hSw); (try dsimp only at hSw); go_simp; (try with_reducible rfl))
        (try simp only [Act.put, List.setIfInBounds_toArray, List.set_cons_zero, List.set_cons_succ])
        refine wpAnyG_pure 1 (v := ?_) (fun _ => trivial) (by simp only [List.getElem?_toArray, List.getElem?_cons_succ, List.getElem?_cons_zero]; rfl) (by kernel_rfl) (fun _ _ _ _ _ h => h) ⟨(by rfl), (by intro c h; cases h), ?_⟩ hHeld ?_
        rotate_left
        focus (intro wS hSw; (try replace hSw := HSF.out wS hSw); (try dsimp only at hSw); go_simp; (try with_reducible rfl))
        (try simp only [Act.put, List.setIfInBounds_toArray, List.set_cons_zero, List.set_cons_succ])
        refine wpAnyG_pure 2 (v := ?_) (fun _ => trivial) (by simp only [List.getElem?_toArray, List.getElem?_cons_succ, List.getElem?_cons_zero]; rfl) (by kernel_rfl) (fun _ _ _ _ _ h => h) ⟨(by rfl), (by intro c h; cases h), ?_⟩ hHeld ?_
        rotate_left
        focus (intro wS hSw; (try replace hSw := HSF.out wS hSw); (try dsimp only at hSw); go_simp; (try with_reducible rfl))
        (try simp only [Act.put, List.setIfInBounds_toArray, List.set_cons_zero, List.set_cons_succ])
        refine wpAnyG_take 3 (v := ?_) (fun _ => trivial) (by simp only [List.getElem?_toArray, List.getElem?_cons_succ, List.getElem?_cons_zero]; rfl) (by kernel_rfl) (fun _ _ _ _ _ h => h) ⟨(by rfl), (by intro c h; cases h), ?_⟩ hHeld ?_
        rotate_left
        focus (intro wS hSw; (try replace hSw := HSF.out wS hSw); (try dsimp only at hSw); go_simp; (try with_reducible rfl))
        (try simp only [Act.put, List.setIfInBounds_toArray, List.set_cons_zero, List.set_cons_succ])
        refine wpAnyG_pure 4 (v := ?_) (fun _ => trivial) (by simp only [List.getElem?_toArray, List.getElem?_cons_succ, List.getElem?_cons_zero]; rfl) (by kernel_rfl) (fun _ _ _ _ _ h => h) ⟨(by rfl), (by intro c h; cases h), ?_⟩ hHeld ?_
        rotate_left
        focus (intro wS hSw; (try replace hSw := HSF.out wS hSw); (try dsimp only at hSw); go_simp; (try with_reducible rfl))
        (try simp only [Act.put, List.setIfInBounds_toArray, List.set_cons_zero, List.set_cons_succ])
        refine wpAnyG_pure 5 (v := ?_) (fun _ => trivial) (by simp only [List.getElem?_toArray, List.getElem?_cons_succ, List.getElem?_cons_zero]; rfl) (by kernel_rfl) (fun _ _ _ _ _ h => h) ⟨(by rfl), (by intro c h; cases h), ?_⟩ hHeld ?_
        rotate_left
        focus (intro wS hSw; (try replace hSw := HSF.out wS hSw); (try dsimp only at hSw); go_simp; (try with_reducible rfl))
        (try simp only [Act.put, List.setIfInBounds_toArray, List.set_cons_zero, List.set_cons_succ])
        refine wpAnyG_pure 6 (v := ?_) (fun _ => trivial) (by simp only [List.getElem?_toArray, List.getElem?_cons_succ, List.getElem?_cons_zero]; rfl) (by kernel_rfl) (fun _ _ _ _ _ h => h) ⟨(by rfl), (by intro c h; cases h), ?_⟩ hHeld ?_
        rotate_left
        focus (intro wS hSw; (try replace hSw := HSF.out wS hSw); (try dsimp only at hSw); go_simp; (try with_reducible rfl))
        (try simp only [Act.put, List.setIfInBounds_toArray, List.set_cons_zero, List.set_cons_succ])
        refine wpAnyG_pure 7 (v := ?_) (fun _ => trivial) (by simp only [List.getElem?_toArray, List.getElem?_cons_succ, List.getElem?_cons_zero]; rfl) (by kernel_rfl) (fun _ _ _ _ _ h => h) ⟨(by rfl), (by intro c h; cases h), ?_⟩ hHeld ?_
        rotate_left
        focus (intro wS hSw; (try replace hSw := HSF.out wS hSw); (try dsimp only at hSw); go_simp; (try with_reducible rfl))
        (try simp only [Act.put, List.setIfInBounds_toArray, List.set_cons_zero, List.set_cons_succ])
        refine wpAnyG_take 8 (v := ?_) (fun _ => trivial) (by simp only [List.getElem?_toArray, List.getElem?_cons_succ, List.getElem?_cons_zero]; rfl) (by kernel_rfl) (fun _ _ _ _ _ h => h) ⟨(by rfl), (by intro c h; cases h), ?_⟩ hHeld ?_
        rotate_left
        focus (intro wS hSw; (try replace hSw := HSF.out wS hSw); (try dsimp only at hSw); go_simp; (try with_reducible rfl))
        (try simp only [Act.put, List.setIfInBounds_toArray, List.set_cons_zero, List.set_cons_succ])
        refine wpAnyG_pure 9 (v := ?_) (fun _ => trivial) (by simp only [List.getElem?_toArray, List.getElem?_cons_succ, List.getElem?_cons_zero]; rfl) (by kernel_rfl) (fun _ _ _ _ _ h => h) ⟨(by rfl), (by intro c h; cases h), ?_⟩ hHeld ?_
        rotate_left
        focus (intro wS hSw; (try replace hSw := HSF.out wS hSw); (try dsimp only at hSw); go_simp; (try with_reducible rfl))
        (try simp only [Act.put, List.setIfInBounds_toArray, List.set_cons_zero, List.set_cons_succ])
        refine wpAnyS_done (by kernel_rfl) ?_
        clear hHeld HSF hsub
        have hi1 := HI1.out
        go_wp2_with fail
        go_roundw
        case rel => exact ⟨i + 1, by omega, by omega, by go_num, HB.out.trans (BD.out.mono HB.out.size)⟩
        case measure => simp [intOf]; omega
      · skip
        refine wpAnyG_pure 0 (v := ?_) (fun _ => trivial) (by simp only [List.getElem?_toArray, List.getElem?_cons_succ, List.getElem?_cons_zero]; rfl) (by kernel_rfl) (fun _ _ _ _ _ h => h) ⟨(by rfl), (by intro c h; cases h), ?_⟩ hHeld ?_
        rotate_left
        focus (intro wS hSw; (try replace hSw := HSF.out wS hSw); (try dsimp only at hSw); go_simp; (try with_reducible rfl))
        (try simp only [Act.put, List.setIfInBounds_toArray, List.set_cons_zero, List.set_cons_succ])
        refine wpAnyG_pure 1 (v := ?_) (fun _ => trivial) (by simp only [List.getElem?_toArray, List.getElem?_cons_succ, List.getElem?_cons_zero]; rfl) (by kernel_rfl) (fun _ _ _ _ _ h => h) ⟨(by rfl), (by intro c h; cases h), ?_⟩ hHeld ?_
        rotate_left
        focus (intro wS hSw; (try replace hSw := HSF.out wS hSw); (try dsimp only at hSw); go_simp; (try with_reducible rfl))
        (try simp only [Act.put, List.setIfInBounds_toArray, List.set_cons_zero, List.set_cons_succ])
        refine wpAnyG_pure 2 (v := ?_) (fun _ => trivial) (by simp only [List.getElem?_toArray, List.getElem?_cons_succ, List.getElem?_cons_zero]; rfl) (by kernel_rfl) (fun _ _ _ _ _ h => h) ⟨(by rfl), (by intro c h; cases h), ?_⟩ hHeld ?_
        rotate_left
        focus (intro wS hSw; (try replace hSw := HSF.out wS hSw); (try dsimp only at hSw); go_simp; (try with_reducible rfl))
        (try simp only [Act.put, List.setIfInBounds_toArray, List.set_cons_zero, List.set_cons_succ])
        refine wpAnyG_take 3 (v := ?_) (fun _ => trivial) (by simp only [List.getElem?_toArray, List.getElem?_cons_succ, List.getElem?_cons_zero]; rfl) (by kernel_rfl) (fun _ _ _ _ _ h => h) ⟨(by rfl), (by intro c h; cases h), ?_⟩ hHeld ?_
        rotate_left
        focus (intro wS hSw; (try replace hSw := HSF.out wS hSw); (try dsimp only at hSw); go_simp; (try with_reducible rfl))
        (try simp only [Act.put, List.setIfInBounds_toArray, List.set_cons_zero, List.set_cons_succ])
        refine wpAnyG_pure 4 (v := ?_) (fun _ => trivial) (by simp only [List.getElem?_toArray, List.getElem?_cons_succ, List.getElem?_cons_zero]; rfl) (by kernel_rfl) (fun _ _ _ _ _ h => h) ⟨(by rfl), (by intro c h; cases h), ?_⟩ hHeld ?_
        rotate_left
        focus (intro wS hSw; (try replace hSw := HSF.out wS hSw); (try dsimp only at hSw); go_simp; (try with_reducible rfl))
        (try simp only [Act.put, List.setIfInBounds_toArray, List.set_cons_zero, List.set_cons_succ])
        refine wpAnyG_pure 5 (v := ?_) (fun _ => trivial) (by simp only [List.getElem?_toArray, List.getElem?_cons_succ, List.getElem?_cons_zero]; rfl) (by kernel_rfl) (fun _ _ _ _ _ h => h) ⟨(by rfl), (by intro c h; cases h), ?_⟩ hHeld ?_
        rotate_left
        focus (intro wS hSw; (try replace hSw := HSF.out wS hSw); (try dsimp only at hSw); go_simp; (try with_reducible rfl))
        (try simp only [Act.put, List.setIfInBounds_toArray, List.set_cons_zero, List.set_cons_succ])
        refine wpAnyG_pure 6 (v := ?_) (fun _ => trivial) (by simp only [List.getElem?_toArray, List.getElem?_cons_succ, List.getElem?_cons_zero]; rfl) (by kernel_rfl) (fun _ _ _ _ _ h => h) ⟨(by rfl), (by intro c h; cases h), ?_⟩ hHeld ?_
        rotate_left
        focus (intro wS hSw; (try replace hSw := HSF.out wS hSw); (try dsimp only at hSw); go_simp; (try with_reducible rfl))
        (try simp only [Act.put, List.setIfInBounds_toArray, List.set_cons_zero, List.set_cons_succ])
        refine wpAnyG_pure 7 (v := ?_) (fun _ => trivial) (by simp only [List.getElem?_toArray, List.getElem?_cons_succ, List.getElem?_cons_zero]; rfl) (by kernel_rfl) (fun _ _ _ _ _ h => h) ⟨(by rfl), (by intro c h; cases h), ?_⟩ hHeld ?_
        rotate_left
        focus (intro wS hSw; (try replace hSw := HSF.out wS hSw); (try dsimp only at hSw); go_simp; (try with_reducible rfl))
        (try simp only [Act.put, List.setIfInBounds_toArray, List.set_cons_zero, List.set_cons_succ])
        refine wpAnyG_take 8 (v := ?_) (fun _ => trivial) (by simp only [List.getElem?_toArray, List.getElem?_cons_succ, List.getElem?_cons_zero]; rfl) (by kernel_rfl) (fun _ _ _ _ _ h => h) ⟨(by rfl), (by intro c h; cases h), ?_⟩ hHeld ?_
        rotate_left
        focus (intro wS hSw; (try replace hSw := HSF.out wS hSw); (try dsimp only at hSw); go_simp; (try with_reducible rfl))
        (try simp only [Act.put, List.setIfInBounds_toArray, List.set_cons_zero, List.set_cons_succ])
        refine wpAnyG_pure 9 (v := ?_) (fun _ => trivial) (by simp only [List.getElem?_toArray, List.getElem?_cons_succ, List.getElem?_cons_zero]; rfl) (by kernel_rfl) (fun _ _ _ _ _ h => h) ⟨(by rfl), (by intro c h; cases h), ?_⟩ hHeld ?_
        rotate_left
        focus (intro wS hSw; (try replace hSw := HSF.out wS hSw); (try dsimp only at hSw); go_simp; (try with_reducible rfl))
        (try simp only [Act.put, List.setIfInBounds_toArray, List.set_cons_zero, List.set_cons_succ])
        refine wpAnyS_done (by kernel_rfl) ?_
        clear hHeld HSF hsub
        have hi1 := HI1.out
        go_wp2_with fail
        go_roundw
        case rel => exact ⟨i + 1, by omega, by omega, by go_num, HB.out.trans (BD.out.mono HB.out.size)⟩
        case measure => simp [intOf]; omega
    · have hke : i = l.length := by omega
      have hki : ¬ (i : Int) < l.length := by omega
      clear hke
      go_wp2_with fail
      go_ret
      exact ⟨rfl, HB.out⟩
/-! ### A neighbour's number tells the direction -/
def dlt (W H d : Int) : Int := stepX d + W * stepY d + W * H * stepZ d
theorem beside_num {W H D c d n : Int} (h : RS W H D) (hb : besideL W H D c d = n) (hn : 0 ≤ n) : n = c + dlt W H d ∧ 0 ≤ d ∧ d < 6 ∧ (stepX d ≠ 0 → 2 ≤ W) ∧ (stepY d ≠ 0 → 2 ≤ H) := by
  unfold besideL at hb
  split at hb
  · rename_i hc
    unfold cellL at hb
    split at hb
    · rename_i hr
      have w1 := h.w1; have h1 := h.h1
      have e1 : c = W * (c / W) + c % W := (Int.mul_ediv_add_emod c W).symm
      have e2 : c / W = H * (c / W / H) + c / W % H := (Int.mul_ediv_add_emod (c / W) H).symm
      have e3 : c / (W * H) = c / W / H := (Int.ediv_ediv_of_nonneg (by omega)).symm
      have x0 := Int.emod_nonneg c (show W ≠ 0 by omega)
      have x1 := Int.emod_lt_of_pos c (show 0 < W by omega)
      have y0 := Int.emod_nonneg (c / W) (show H ≠ 0 by omega)
      have y1 := Int.emod_lt_of_pos (c / W) (show 0 < H by omega)
      rw [e3] at hb hr
      generalize c % W = x at *
      generalize c / W / H = z at *
      generalize c / W % H = y at *
      generalize hq : c / W = q at *
      clear hq e3
      subst e2
      refine ⟨?_, hc.2.2.1, hc.2.2.2, ?_, ?_⟩
      · rw [← hb, e1]
        unfold dlt
        simp only [Int.add_mul, Int.mul_add, Int.mul_assoc, Int.mul_comm, Int.mul_left_comm]
        omega
      · intro hs
        have := (step_bd d).1
        omega
      · intro hs
        have := (step_bd d).2.1
        omega
    · omega
  · omega
theorem beside_inj {W H D c d d' n : Int} (h : RS W H D) (hb : besideL W H D c d = n) (hb' : besideL W H D c d' = n) (hn : 0 ≤ n) : d = d' := by
  obtain ⟨e, d0, d6, hw, hh⟩ := beside_num h hb hn
  obtain ⟨e', d0', d6', hw', hh'⟩ := beside_num h hb' hn
  have w1 := h.w1; have h1 := h.h1
  have hWH : W ≤ W * H := by have := Int.mul_le_mul_of_nonneg_left h1 (show 0 ≤ W by omega); simpa using this
  have hWH2 : 2 ≤ H → 2 * W ≤ W * H := fun hq => by have := Int.mul_le_mul_of_nonneg_left hq (show 0 ≤ W by omega); omega
  have hd : d = 0 ∨ d = 1 ∨ d = 2 ∨ d = 3 ∨ d = 4 ∨ d = 5 := by omega
  have hd' : d' = 0 ∨ d' = 1 ∨ d' = 2 ∨ d' = 3 ∨ d' = 4 ∨ d' = 5 := by omega
  unfold dlt at e e'
  rcases hd with rfl | rfl | rfl | rfl | rfl | rfl <;> rcases hd' with rfl | rfl | rfl | rfl | rfl | rfl <;> first
    | rfl
    | (exfalso
       simp [stepX, stepY, stepZ] at e e' hw hh hw' hh'
       omega)
end Go.Proofs.YtgbgcmhmlnmklaaGreatDoor
namespace Go.Proofs.YtgbgcmhmlnmklaaGreatDoor
open Go.RowKit Go.IntWalk Go.Shelf

/-- The shift from i in the direction d, if there is one. -/
def stepS (W H D : Int) (kind out r : List Int) (l : List Bool) (full : Bool) (i d : Nat) : Option Sh :=
  match nextL W H D kind out (r.getD i 0) (d : Int) with
  | none => none
  | some c => if r.contains c = true ∧ l.getD (r.countP (fun y => decide (y < c))) full ≠ full then some ((i : Int), (r.countP (fun y => decide (y < c)) : Nat)) else none
def rowS (W H D : Int) (kind out r : List Int) (l : List Bool) (full : Bool) (i m : Nat) : List Sh := (List.range m).filterMap (stepS W H D kind out r l full i)
def allS (W H D : Int) (kind out r : List Int) (l : List Bool) (full : Bool) (k : Nat) : List Sh := (List.range k).flatMap (fun i => if l.getD i (!full) = full then rowS W H D kind out r l full i 6 else [])
section
variable {W H D : Int} {kind out r : List Int} {l : List Bool} {full : Bool}
theorem rowS_succ (i m : Nat) : rowS W H D kind out r l full i (m + 1) = rowS W H D kind out r l full i m ++ (stepS W H D kind out r l full i m).toList := by
  unfold rowS
  rw [List.range_succ, List.filterMap_append]
  cases h : stepS W H D kind out r l full i m <;> simp [h]
theorem allS_succ (k : Nat) : allS W H D kind out r l full (k + 1) = allS W H D kind out r l full k ++ (if l.getD k (!full) = full then rowS W H D kind out r l full k 6 else []) := by
  unfold allS
  rw [List.range_succ, List.flatMap_append]
  simp
theorem rowS_len (i m : Nat) : (rowS W H D kind out r l full i m).length ≤ m := by
  unfold rowS
  exact Nat.le_trans (List.length_filterMap_le _ _) (by simp)
theorem allS_len (k : Nat) : (allS W H D kind out r l full k).length ≤ k * 6 := by
  induction k with
  | zero => simp [allS]
  | succ k ih =>
    rw [allS_succ, List.length_append]
    have := rowS_len (W := W) (H := H) (D := D) (kind := kind) (out := out) (r := r) (l := l) (full := full) k 6
    split
    · omega
    · simp; omega
/-- What a shift of the list is. -/
structure ShOK (W H D : Int) (kind out r : List Int) (l : List Bool) (full : Bool) (x : Sh) (a b : Nat) : Prop where
  eq : x = ((a : Int), (b : Int))
  al : a < l.length
  bl : b < l.length
  ar : a < r.length
  br : b < r.length
  fa : l.getD a (!full) = full
  fb : l.getD b full ≠ full
  way : ∃ d : Nat, d < 6 ∧ nextL W H D kind out (r.getD a 0) (d : Int) = some (r.getD b 0)
theorem stepS_some {i d : Nat} {x : Sh} (hr : r.Pairwise (· < ·)) (h : stepS W H D kind out r l full i d = some x) : ∃ b : Nat, x = ((i : Int), (b : Int)) ∧ b < r.length ∧ l.getD b full ≠ full ∧ nextL W H D kind out (r.getD i 0) (d : Int) = some (r.getD b 0) := by
  unfold stepS at h
  split at h
  · cases h
  · rename_i c hc
    split at h
    · rename_i hq
      injection h with h
      obtain ⟨k, hk, hkc⟩ := List.getElem_of_mem (List.contains_iff_mem.1 hq.1)
      have hcount := count_at hr k hk
      rw [hkc] at hcount
      rw [hcount] at h hq
      refine ⟨k, h.symm, hk, hq.2, ?_⟩
      rw [hc, List.getD_eq_getElem?_getD, List.getElem?_eq_getElem hk, Option.getD_some, hkc]
    · cases h
theorem stepS_of {i d b : Nat} (hr : r.Pairwise (· < ·)) (hb : b < r.length) (hf : l.getD b full ≠ full) (hn : nextL W H D kind out (r.getD i 0) (d : Int) = some (r.getD b 0)) : stepS W H D kind out r l full i d = some ((i : Int), (b : Int)) := by
  have hg : r.getD b 0 = r[b] := by rw [List.getD_eq_getElem?_getD, List.getElem?_eq_getElem hb]; rfl
  unfold stepS
  rw [hn]
  simp only
  rw [hg, count_at hr b hb, if_pos ⟨List.contains_iff_mem.2 (List.getElem_mem hb), hf⟩]
theorem allS_mem {k : Nat} {x : Sh} (hr : r.Pairwise (· < ·)) (hlr : r.length = l.length) (hk : k = r.length) : x ∈ allS W H D kind out r l full k ↔ ∃ a b, ShOK W H D kind out r l full x a b := by
  subst hk
  unfold allS
  rw [List.mem_flatMap]
  constructor
  · rintro ⟨a, ha, hx⟩
    rw [List.mem_range] at ha
    split at hx
    · rename_i hfa
      obtain ⟨d, hd, hs⟩ := List.mem_filterMap.1 hx
      rw [List.mem_range] at hd
      obtain ⟨b, e, hb, hfb, hn⟩ := stepS_some hr hs
      exact ⟨a, b, e, by omega, by omega, ha, hb, hfa, hfb, d, hd, hn⟩
    · cases hx
  · rintro ⟨a, b, h⟩
    obtain ⟨d, hd, hn⟩ := h.way
    refine ⟨a, List.mem_range.2 h.ar, ?_⟩
    rw [if_pos h.fa]
    exact List.mem_filterMap.2 ⟨d, List.mem_range.2 hd, by rw [h.eq]; exact stepS_of hr h.br h.fb hn⟩
theorem next_beside {c d n : Int} (h : nextL W H D kind out c d = some n) : besideL W H D c d = n ∧ 0 ≤ n := by
  unfold nextL at h
  by_cases hb : besideL W H D c d < 0
  · rw [if_pos hb] at h; cases h
  · rw [if_neg hb] at h
    split at h
    · cases h
    split at h
    · cases h
    split at h
    · cases h
    split at h
    · cases h
    injection h with h
    omega
theorem rowS_nodup (hs : RS W H D) (hr : r.Pairwise (· < ·)) (i m : Nat) : (rowS W H D kind out r l full i m).Nodup := by
  induction m with
  | zero => simp [rowS]
  | succ m ih =>
    rw [rowS_succ]
    cases hq : stepS W H D kind out r l full i m with
    | none => simpa using ih
    | some x =>
      refine List.nodup_append.2 ⟨ih, by simp, fun y hy z hz => ?_⟩
      simp only [Option.toList_some, List.mem_singleton] at hz
      subst hz
      obtain ⟨d, hd, hsd⟩ := List.mem_filterMap.1 hy
      rw [List.mem_range] at hd
      intro e
      subst e
      obtain ⟨b, e1, hb1, _, hn1⟩ := stepS_some hr hq
      obtain ⟨b', e2, hb2, _, hn2⟩ := stepS_some hr hsd
      have hbb : b = b' := by
        have := e1.symm.trans e2
        injection this with _ h2
        omega
      subst hbb
      obtain ⟨q1, q0⟩ := next_beside hn1
      obtain ⟨q2, _⟩ := next_beside hn2
      have := beside_inj hs q1 q2 q0
      omega
theorem rowS_fst {i m : Nat} {x : Sh} (hr : r.Pairwise (· < ·)) (h : x ∈ rowS W H D kind out r l full i m) : x.1 = i := by
  obtain ⟨d, _, hs⟩ := List.mem_filterMap.1 h
  obtain ⟨b, e, _⟩ := stepS_some hr hs
  rw [e]
theorem allS_nodup (hs : RS W H D) (hr : r.Pairwise (· < ·)) (k : Nat) : (allS W H D kind out r l full k).Nodup := by
  induction k with
  | zero => simp [allS]
  | succ k ih =>
    rw [allS_succ]
    refine List.nodup_append.2 ⟨ih, ?_, fun y hy z hz => ?_⟩
    · split
      · exact rowS_nodup hs hr k 6
      · simp
    · intro e
      subst e
      obtain ⟨a, ha, hx⟩ := List.mem_flatMap.1 hy
      rw [List.mem_range] at ha
      split at hx
      · split at hz
        · have h1 := rowS_fst hr hx
          have h2 := rowS_fst hr hz
          omega
        · cases hz
      · cases hx
theorem allS_in (hr : r.Pairwise (· < ·)) (hlr : r.length = l.length) (h24 : l.length ≤ 24) {k : Nat} (hk : k ≤ 24) : ∀ x ∈ allS W H D kind out r l full k, (0 ≤ x.1 ∧ x.1 ≤ 1000) ∧ 0 ≤ x.2 ∧ x.2 ≤ 1000 := by
  intro x hx
  obtain ⟨a, ha, hx⟩ := List.mem_flatMap.1 hx
  rw [List.mem_range] at ha
  split at hx
  · obtain ⟨d, _, hs⟩ := List.mem_filterMap.1 hx
    obtain ⟨b, e, hb, _⟩ := stepS_some hr hs
    rw [e]
    exact ⟨⟨by simp, by simp; omega⟩, by simp, by simp; omega⟩
  · cases hx
end
end Go.Proofs.YtgbgcmhmlnmklaaGreatDoor
namespace Go.Proofs.YtgbgcmhmlnmklaaGreatDoor
open Go.RowKit Go.IntWalk Go.Shelf

set_option maxRecDepth 100000 in
set_option maxHeartbeats 8000000 in
theorem shiftsS_any (W H D : Int) (Ak Ao : Option Addr) (ck co : Nat) (kind out : List Int) (Ar Al : Option Addr) (cr cl : Nat) (r : List Int) (l : List Bool) (t : Int) (full : Bool) (w : World) (hF : RF W H D kind out) (hk : SlR w w.heap.size Ak kind) (ho : SlR w w.heap.size Ao out) (hr : SlR w w.heap.size Ar r) (hL : SlR w w.heap.size Al l)
    (hreg : r.Pairwise (· < ·)) (hlr : r.length = l.length) (h24 : l.length ≤ 24) :
    Calls Tryz.prog 52 #[.agg #[.int .i64 W, .int .i64 H, .int .i64 D, .slice Ak kind.length ck, .slice Ao out.length co], .slice Ar r.length cr, .agg #[.slice Al l.length cl, .int .i64 t], .bool full] w fun e w' => ∃ (A' : Option Addr) (c' : Nat) (s : List Sh), e = .returned (.slice A' s.length c') ∧ s.Perm (allS W H D kind out r l full r.length) ∧ s.Pairwise (fun a b => ¬ (b.1 < a.1 ∨ b.1 = a.1 ∧ b.2 < a.2)) ∧ SlR w' w'.heap.size A' s ∧ Below w.heap.size w w' := by
  obtain ⟨w1, hw1⟩ : ∃ w1, w1 = ((w.alloc (Obj.cells #[Value.int .i64 W, Value.int .i64 H, Value.int .i64 D, Value.slice Ak kind.length ck, Value.slice Ao out.length co] 24)).alloc (Obj.cells #[.slice Al l.length cl, .int .i64 t] 27)) := ⟨_, rfl⟩
  have B1 := hid (show Below w.heap.size w w1 by rw [hw1]; (repeat (first | exact Below.refl _ _ | assumption | refine below_drewN ?_ _ | refine Below.drew ?_ | refine Below.alloc ?_ (by (try simp); (try omega)) _ | refine Below.setCell ?_ (by (try simp); (try omega)) _)))
  have X1 := (show Blk w1 w.heap.size 24 #[Value.int .i64 W, Value.int .i64 H, Value.int .i64 D, Value.slice Ak kind.length ck, Value.slice Ao out.length co] by rw [hw1]; exact (Blk.new w _ _).alloc _)
  have X2 := (show Blk w1 (w.heap.size + 1) 27 #[.slice Al l.length cl, .int .i64 t] by rw [hw1]; exact Blk.new_at (by simp))
  have HX := hid (fun (W' : World) (hW : Below w1.heap.size w1 W') => And.intro (blk5 (X1.below hW X1.lt)) (And.intro (show W'.cell? ⟨w.heap.size + 1, 0, none⟩ = some (.slice Al l.length cl) from (bcell hW _ _ X2.lt).trans (by rw [X2.cell]; rfl)) (And.intro (Nat.lt_of_lt_of_le X1.lt hW.size) (Nat.lt_of_lt_of_le X2.lt hW.size))))
  have HR := hid (fun (W' : World) (hW : Below w1.heap.size w1 W') => show SlR W' W'.heap.size Ar r from ((hr.below (B1.out.trans (hW.mono B1.out.size))).more (B1.out.trans (hW.mono B1.out.size)).size))
  have HLs := hid (fun (W' : World) (hW : Below w1.heap.size w1 W') => show SlR W' W'.heap.size Al l from ((hL.below (B1.out.trans (hW.mono B1.out.size))).more (B1.out.trans (hW.mono B1.out.size)).size))
  have HNX := hid (fun (c d : Int) (W' : World) (hW : Below w1.heap.size w1 W') => next_any W H D Ak Ao ck co kind out c d W' hF ((hk.below (B1.out.trans (hW.mono B1.out.size))).more (B1.out.trans (hW.mono B1.out.size)).size) ((ho.below (B1.out.trans (hW.mono B1.out.size))).more (B1.out.trans (hW.mono B1.out.size)).size))
  have HBS := hid (fun (x : Int) (W' : World) (hW : Below w1.heap.size w1 W') => bs_any Ar cr r x W' (by omega) (HR.out W' hW) hreg)
  have hreg2 := hid hreg
  have hlr2 := hid hlr
  have hS := hid hF.s
  have hr24 : r.length ≤ 24 := by omega
  clear hF hk ho hr hL X1 X2 hreg hlr
  go_enter Tryz.func52, Tryz.ntmps52
  go_upto_region 1 with fail
  rw [← hw1]
  clear hw1
  go_upto_region 3 with fail
  go_loopw [9, 19] (fun v iv wr => ∃ i : Nat, i ≤ r.length ∧ iv = .int .i64 i ∧ shRK.Own wr w1.heap.size v (allS W H D kind out r l full i) ∧ Below w1.heap.size w1 wr) (fun _ iv _ => r.length - (intOf iv).toNat)
  case atStart => exact ⟨0, by omega, rfl, RK.Own.nil, Below.refl _ _⟩
  case round =>
    obtain ⟨i, hi, rfl, ho, hB⟩ := hrel
    have HO := hid ho
    have HB := hid hB
    clear ho hB
    by_cases hlt : i < r.length
    case pos =>
      have hlt' : (i : Int) < r.length := by omega
      have hil : i < l.length := by have := hlr2.out; omega
      have hil' : (i : Int) < l.length := by omega
      obtain ⟨⟨k0, k1, k2, k3, k4⟩, l0, xz, lz⟩ := HX.out wr HB.out
      obtain ⟨br, or, hAr, hbr, hcr, -⟩ := (HR.out wr HB.out).int hlt
      obtain ⟨bl, ol, hAl, hbl, hcl⟩ := (HLs.out wr HB.out).bool hil
      have hri := hid (show r.getD i 0 = r[i] by rw [List.getD_eq_getElem?_getD, List.getElem?_eq_getElem hlt]; rfl)
      have hli := hid (show l.getD i (!full) = l[i] by rw [List.getD_eq_getElem?_getD, List.getElem?_eq_getElem hil]; rfl)
      have hsu := hid (allS_succ (W := W) (H := H) (D := D) (kind := kind) (out := out) (r := r) (l := l) (full := full) i)
      subst hAr hAl
      generalize r[i] = c at *
      generalize hfe : l[i] = fi at hcl hli
      clear hfe
      by_cases hff : fi = full
      case neg =>
        have hffb : (!fi == full) = true := by cases fi <;> cases full <;> simp at hff ⊢
        have hskip := hid (show allS W H D kind out r l full (i + 1) = allS W H D kind out r l full i by rw [hsu.out, if_neg (by rw [hli.out]; exact hff), List.append_nil])
        as_aux_lemma =>
          go_wp2_with fail
          go_roundw
          case rel => exact ⟨i + 1, by omega, by go_num, by rw [hskip.out]; exact HO.out, HB.out⟩
          case measure => simp [intOf]; omega
      subst hff
      have hall := hid (show allS W H D kind out r l fi (i + 1) = allS W H D kind out r l fi i ++ rowS W H D kind out r l fi i 6 by rw [hsu.out, if_pos (by rw [hli.out])])
      clear hsu
      have hil24 : i ≤ 24 := by omega
      have hal := hid (allS_len (W := W) (H := H) (D := D) (kind := kind) (out := out) (r := r) (l := l) (full := fi) i)
      have hrl := hid (fun m => rowS_len (W := W) (H := H) (D := D) (kind := kind) (out := out) (r := r) (l := l) (full := fi) i m)
      have hrs := hid (fun m => rowS_succ (W := W) (H := H) (D := D) (kind := kind) (out := out) (r := r) (l := l) (full := fi) i m)
      have hsd := hid (fun (d : Nat) => show stepS W H D kind out r l fi i d = match nextL W H D kind out c (d : Int) with
        | none => none
        | some y => if r.contains y = true ∧ l.getD (r.countP (fun z => decide (z < y))) fi ≠ fi then some ((i : Int), (r.countP (fun z => decide (z < y)) : Nat)) else none from by
          unfold stepS
          rw [hri.out]
          try (cases nextL W H D kind out c (d : Int) <;> rfl))
      generalize allS W H D kind out r l fi i = AL at *
      go_upto_region 7 with fail
      clear k0 k1 k2 k3 k4 l0 hcr hcl
      go_loopw [9, 31] (fun v dv wr => ∃ d : Nat, d ≤ 6 ∧ dv = .int .i64 d ∧ shRK.Own wr w1.heap.size v (AL ++ rowS W H D kind out r l fi i d) ∧ Below w1.heap.size w1 wr) (fun _ dv _ => 6 - (intOf dv).toNat)
      case atStart => exact ⟨0, by omega, rfl, by simpa [rowS] using HO.out, HB.out⟩
      case round =>
        clear HO HB xz lz hbr hbl
        obtain ⟨d, hd, rfl, ho, hB⟩ := hrel
        have HO := hid ho
        have HB := hid hB
        clear ho hB
        by_cases hld : d < 6
        case pos =>
          have hld' : (d : Int) < 6 := by omega
          obtain ⟨⟨k0, k1, k2, k3, k4⟩, l0, xz, lz⟩ := HX.out wr HB.out
          have HN := hid (HNX.out c (d : Int) wr HB.out)
          have hrd := hid (hrs.out d)
          have hsdd := hid (hsd.out d)
          have hrl6 := hid (hrl.out d)
          generalize nextL W H D kind out c (d : Int) = nx at *
          go_wp2_with fail
          refine HN.out.mono ?_
          rintro e w5 ⟨rfl, hB5⟩
          have HB5 := hid (HB.out.trans (hB5.mono HB.out.size))
          have HO5 := hid (HO.out.below hB5)
          clear hB5 HN k0 k1 k2 k3 k4 l0 xz lz
          cases nx with
          | none =>
            have hrow := hid (show rowS W H D kind out r l fi i (d + 1) = rowS W H D kind out r l fi i d by rw [hrd.out, hsdd.out]; simp)
            unfold nextV
            as_aux_lemma =>
              go_wp2_with fail
              go_roundw
              case rel => exact ⟨d + 1, by omega, by go_num, by rw [hrow.out]; exact HO5.out, HB5.out⟩
              case measure => simp [intOf]; omega
          | some y =>
            simp only at hsdd
            unfold nextV
            have HBy := hid (HBS.out y w5 HB5.out)
            cases hcn : r.contains y with
            | false =>
              have hrow := hid (show rowS W H D kind out r l fi i (d + 1) = rowS W H D kind out r l fi i d by rw [hrd.out, hsdd.out, hcn]; simp)
              rw [hcn] at HBy
              clear hcn hsdd
              generalize r.countP (fun z => decide (z < y)) = kk at *
              as_aux_lemma =>
                go_wp2_with fail
                refine HBy.out.mono ?_
                rintro e w6 ⟨rfl, hB6⟩
                have HB6 := hid (HB5.out.trans (hB6.mono HB5.out.size))
                have HO6 := hid (HO5.out.below hB6)
                clear hB6
                go_wp2_with fail
                go_roundw
                case rel => exact ⟨d + 1, by omega, by go_num, by rw [hrow.out]; exact HO6.out, HB6.out⟩
                case measure => simp [intOf]; omega
            | true =>
              rw [hcn] at HBy
              obtain ⟨kk, hkk, hkc⟩ := List.getElem_of_mem (List.contains_iff_mem.1 hcn)
              have hcount := count_at hreg2.out kk hkk
              rw [hkc] at hcount
              rw [hcount] at HBy hsdd
              rw [hcn] at hsdd
              clear hcount hkc hcn
              have hkl : kk < l.length := by have := hlr2.out; omega
              have hkli : (kk : Int) < l.length := by omega
              have hkr24 : kk ≤ 24 := by omega
              have hlk := hid (show l.getD kk fi = l[kk] by rw [List.getD_eq_getElem?_getD, List.getElem?_eq_getElem hkl]; rfl)
              have hrw5 := hid (fun (h : l[kk] = fi) => show rowS W H D kind out r l fi i (d + 1) = rowS W H D kind out r l fi i d by rw [hrd.out, hsdd.out, if_neg (by rw [hlk.out]; exact fun hc => hc.2 h)]; simp)
              have hrw6 := hid (fun (h : l[kk] ≠ fi) => show rowS W H D kind out r l fi i (d + 1) = rowS W H D kind out r l fi i d ++ [((i : Int), (kk : Int))] by rw [hrd.out, hsdd.out, if_pos (by rw [hlk.out]; exact ⟨rfl, h⟩)]; rfl)
              clear hsdd hrd hlk
              go_wp2_with fail
              refine HBy.out.mono ?_
              rintro e w6 ⟨rfl, hB6⟩
              have HB6 := hid (HB5.out.trans (hB6.mono HB5.out.size))
              have HO6 := hid (HO5.out.below hB6)
              clear hB6 HBy HO5 HB5
              obtain ⟨⟨k0, k1, k2, k3, k4⟩, l0, xz, lz⟩ := HX.out w6 HB6.out
              have hbc := (HLs.out w6 HB6.out).bool_at hkl
              have hbl6 : bl < w6.heap.size := (cell_lt hbc).1
              generalize l[kk] = fk at *
              by_cases hfk : fk = fi
              · have hrow := hid (hrw5.out hfk)
                subst hfk
                clear hrw5 hrw6
                as_aux_lemma =>
                  go_wp2_with fail
                  go_roundw
                  case rel => exact ⟨d + 1, by omega, by go_num, by rw [hrow.out]; exact HO6.out, HB6.out⟩
                  case measure => simp [intOf]; omega
              · have hrow := hid (hrw6.out hfk)
                have hfb : (!fk == fi) = true := by cases fk <;> cases fi <;> simp at hfk ⊢
                clear hrw5 hrw6
                go_upto_region 13 with fail
                have SG := hid (shRK.blk (l := [((i : Int), (kk : Int))]) (Blk.new w6 29 #[.int .i64 (i : Nat), .int .i64 (kk : Nat)]) (by intro e he; simp only [List.mem_singleton] at he; subst he; exact ⟨⟨by simp only; omega, by simp only; omega⟩, by simp only; omega, by simp only; omega⟩))
                have hl9 := hid (show (AL ++ rowS W H D kind out r l fi i d).length + ([((i : Int), (kk : Int))] : List Sh).length ≤ 100000000 by rw [List.length_append, List.length_singleton]; have h1 := hal.out; have h2 := hrl6.out; omega)
                have hb9 := hid (show w1.heap.size ≤ (w6.alloc (Obj.cells #[.int .i64 (i : Nat), .int .i64 (kk : Nat)] 29)).heap.size by have h1 := HB6.out.size; simp; omega)
                as_aux_lemma =>
                  go_wp2_with (at_builtin; refine shRK.appL _ rfl (.tmp 59) (.tmp 63) rfl rfl (HO6.out.alloc _) (ys := [((i : Int), (kk : Int))]) (c := 1) rfl SG.out hl9.out hb9.out ?_; intro A9 c9 w9 ho9 hg9; have HO9 := hid ho9; have HB9 := hid (show Below w1.heap.size w1 w9 from (HB6.out.alloc HB6.out.size _).grown hg9 hb9.out (fun g hg => (own_blk HO6.out g hg).1)); clear ho9 hg9)
                  go_roundw
                  case rel => exact ⟨d + 1, by omega, by go_num, by rw [hrow.out, ← List.append_assoc]; have h9 := HO9.out; simp only [List.length_append, List.length_singleton] at h9; exact h9, HB9.out⟩
                  case measure => simp [intOf]; omega
        case neg =>
          obtain rfl : d = 6 := by omega
          as_aux_lemma =>
            go_wp2_with fail
            go_roundw
            case rel => exact ⟨i + 1, by omega, by go_num, by rw [hall.out]; exact HO.out, HB.out⟩
            case measure => simp [intOf]; omega
    case neg =>
      obtain rfl : i = r.length := by omega
      have hal := allS_len (W := W) (H := H) (D := D) (kind := kind) (out := out) (r := r) (l := l) (full := full) r.length
      have hin := hid (allS_in (W := W) (H := H) (D := D) (kind := kind) (out := out) (full := full) hreg2.out hlr2.out h24 (show r.length ≤ 24 by omega))
      have hnd := hid (allS_nodup (kind := kind) (out := out) (l := l) (full := full) hS.out hreg2.out r.length)
      generalize hALe : allS W H D kind out r l full r.length = AL at *
      have HAL := hid hALe
      clear hALe
      have hal2 : AL.length ≤ 144 := by omega
      clear hal
      by_cases h0 : 0 < AL.length
      · obtain ⟨g, cap, cur, rfl, hg, -, -, -, -⟩ := own_cell HO.out h0
        have HSO := hid (sortsh_any w1.heap.size g cap AL wr (by omega) hin.out HO.out)
        go_upto_region 16 with fail
        go_wp2_with fail
        refine HSO.out.mono ?_
        rintro e w5 ⟨rfl, s, hp, hpw, hos, hgr⟩
        have HP := hid hp
        have HPW := hid hpw
        clear hpw
        have hpl := hid hp.length_eq
        have HB5 := hid (show Below w1.heap.size w1 w5 from HB.out.grown hgr HB.out.size (fun k hk => by injection hk with e; omega))
        obtain ⟨A9, c9, e9, _, _, hss⟩ := hos.slr (fun x hx => by have := hin.out x (hp.mem_iff.1 hx); exact ⟨⟨by omega, by omega⟩, by omega, by omega⟩)
        injection e9 with e9
        have HSS := hid (show SlR w5 w5.heap.size (some ⟨g, 0, none⟩) s from by rw [e9]; exact hss)
        have hsn := hid (hp.nodup_iff.2 hnd.out)
        clear hos hgr hss e9 hp
        rw [← hpl.out]
        have HCP := hid (fun c8 => compact_any (some ⟨g, 0, none⟩) c8 s w5 (by have := hpl.out; omega) HSS.out hsn.out)
        go_wp2_with fail
        refine (HCP.out _).mono ?_
        rintro e w6 ⟨rfl, hB6⟩
        have BW := hid (B1.out.trans ((HB5.out.trans (hB6.mono HB5.out.size)).mono B1.out.size))
        have HS6 := hid ((HSS.out.below hB6).more hB6.size)
        clear hB6
        go_wp2_with fail
        go_ret
        exact ⟨some ⟨g, 0, none⟩, _, s, rfl, by rw [HAL.out]; exact HP.out, HPW.out, HS6.out, BW.out⟩
      · obtain ⟨A9, c9, rfl⟩ := HO.out.form
        have hAL : AL = [] := List.eq_nil_of_length_eq_zero (by omega)
        subst hAL
        have HSO := hid (sortnil_any A9 c9 wr)
        simp only [List.length_nil] at HSO ⊢
        have HCP := hid (fun A8 c8 W => compact_any A8 c8 [] W (by simp) SlR.nil (by simp))
        simp only [List.length_nil] at HCP
        go_wp2_with fail
        refine HSO.out.mono ?_
        rintro e w5 ⟨rfl, rfl⟩
        go_wp2_with fail
        refine (HCP.out _ _ _).mono ?_
        rintro e w6 ⟨rfl, hB6⟩
        have BW := hid (B1.out.trans ((HB.out.trans (hB6.mono HB.out.size)).mono B1.out.size))
        clear hB6
        go_wp2_with fail
        go_ret
        exact ⟨A9, c9, [], rfl, by rw [HAL.out], by simp, SlR.nil, BW.out⟩
theorem shifts_any (W H D : Int) (Ak Ao : Option Addr) (ck co : Nat) (kind out : List Int) (Ar Al : Option Addr) (cr cl : Nat) (r : List Int) (l : List Bool) (t : Int) (full : Bool) (w : World) (hF : RF W H D kind out) (hk : SlR w w.heap.size Ak kind) (ho : SlR w w.heap.size Ao out) (hr : SlR w w.heap.size Ar r) (hL : SlR w w.heap.size Al l)
    (hreg : r.Pairwise (· < ·)) (hlr : r.length = l.length) (h24 : l.length ≤ 24) :
    Calls Tryz.prog 52 #[.agg #[.int .i64 W, .int .i64 H, .int .i64 D, .slice Ak kind.length ck, .slice Ao out.length co], .slice Ar r.length cr, .agg #[.slice Al l.length cl, .int .i64 t], .bool full] w fun e w' => ∃ (A' : Option Addr) (c' : Nat) (s : List Sh), e = .returned (.slice A' s.length c') ∧ s.Perm (allS W H D kind out r l full r.length) ∧ SlR w' w'.heap.size A' s ∧ Below w.heap.size w w' :=
  (shiftsS_any W H D Ak Ao ck co kind out Ar Al cr cl r l t full w hF hk ho hr hL hreg hlr h24).mono fun _ _ ⟨A', c', s, h1, h2, _, h3, h4⟩ => ⟨A', c', s, h1, h2, h3, h4⟩
end Go.Proofs.YtgbgcmhmlnmklaaGreatDoor
