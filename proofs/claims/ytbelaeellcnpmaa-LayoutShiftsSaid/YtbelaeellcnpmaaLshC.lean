
/- Layouts, shifts: a copied list of bools; Do. -/
import Derived.Test.YtbelaeellcnpmaaLshA
set_option linter.unusedSimpArgs false
set_option linter.unusedVariables false
namespace Go.Proofs.Ytbelaeellcnpmaa
open Go.RowKit Go.IntWalk

def bRK : RK Bool where
  e := 4
  t := 25
  size := 1
  bytes := 1
  z := .bool false
  cs x := [.bool x]
  ok x := True
  und := Try.underlying25
  info := by kernel_rfl
  zcs := rfl
  pos := by omega
  small := by omega
  len _ := rfl
  one x v hv := by simp at hv; rcases hv with rfl; rfl
  rsz := rfl
  rep w B x h := rfl
  inv w B c x h := ⟨h, trivial⟩
set_option maxRecDepth 100000 in
set_option maxHeartbeats 1000000 in
theorem bclone_any (b off : Nat) (c : Nat) (l : List Bool) (w : World) (hl : l.length ≤ 65536) (hs : SlR w w.heap.size (some ⟨b, off, none⟩) l) :
    Calls Try.prog 21 #[.slice (some ⟨b, off, none⟩) l.length c] w fun e w' => ∃ v, e = .returned v ∧ bRK.Own w' w.heap.size v l ∧ Below w.heap.size w w' := by
  have hn1 := fun W => Lib.run_eql_slice_nil (P := Try.prog) W 25 4 (some ⟨b, off, none⟩) l.length c 0 0 Try.underlying25
  simp only [Option.isNone_some] at hn1
  have HS := hid hs
  have hown : Hid (bRK.Own (w.alloc (Obj.cells #[] 4)) w.heap.size (.slice (some ⟨w.heap.size, 0, none⟩) 0 0) []) := RK.Own.fresh (l := []) (Blk.new w _ _) (Nat.le_refl _) (by simp)
  have hl9 := hid (show ([] : List Bool).length + l.length ≤ 100000000 by simp; omega)
  clear hs
  go_enter Try.func21, Try.ntmps21
  go_wp2_with (at_builtin; refine bRK.appL _ rfl (.tmp 5) (.tmp 6) rfl rfl hown.out (ys := l) (c := c) rfl (HS.out.alloc (Nat.le_refl _) _) hl9.out (by simp) ?_; intro A1 c1 w1 ho1 hg1)
  clear hn1
  go_wp2
  go_ret
  refine ⟨_, rfl, by simpa using ho1, ?_⟩
  refine ((Below.refl _ w).alloc (Nat.le_refl _) _).grown hg1 (by simp) ?_
  intro k hk
  have hk' : some w.heap.size = some k := hk
  injection hk' with e
  omega
/-- A shift that is possible: what it does. -/
def doL (l : List Bool) (a b : Nat) : List Bool := (l.set a false).set b true
def doT (t : Int) (a b : Nat) : Int := if t = a then b else t
set_option maxRecDepth 100000 in
set_option maxHeartbeats 4000000 in
theorem do_any (A : Option Addr) (c : Nat) (l : List Bool) (t : Int) (a b : Nat) (w : World) (hl : l.length ≤ 24) (hs : SlR w w.heap.size A l) (ha : a < l.length) (hb : b < l.length) (hla : l[a] = true) (hlb : l[b] = false) :
    Calls Try.prog 7 #[.agg #[.slice A l.length c, .int .i64 t], .agg #[.int .i64 (a : Nat), .int .i64 (b : Nat)]] w fun e w' => ∃ A' c', e = .returned (.tuple #[.agg #[.slice A' l.length c', .int .i64 (doT t a b)], .int .i64 0]) ∧ l.length ≤ c' ∧ c' ≤ maxLen ∧ SlR w' w'.heap.size A' (doL l a b) ∧ Below w.heap.size w w' := by
  obtain ⟨bl, ol, rfl, hbl, hca⟩ := hs.bool ha
  have hcb := hs.bool_at hb
  rw [hla] at hca
  rw [hlb] at hcb
  obtain ⟨w1, hw1⟩ : ∃ w1, w1 = (((w.alloc (Obj.cells #[.slice (some ⟨bl, ol, none⟩) l.length c, .int .i64 t] 27)).alloc (Obj.cells #[.int .i64 (a : Nat), .int .i64 (b : Nat)] 36)).alloc (Obj.cells #[.slice none 0 0, .int .i64 0] 27)) := ⟨_, rfl⟩
  have B1 := hid (show Below w.heap.size w w1 by rw [hw1]; (repeat (first | exact Below.refl _ _ | assumption | refine below_drewN ?_ _ | refine Below.drew ?_ | refine Below.alloc ?_ (by (try simp); (try omega)) _ | refine Below.setCell ?_ (by (try simp); (try omega)) _)))
  have hsz := hid (show w1.heap.size = w.heap.size + 1 + 1 + 1 by rw [hw1]; simp)
  have X1 := hid (show Blk w1 w.heap.size 27 #[.slice (some ⟨bl, ol, none⟩) l.length c, .int .i64 t] by rw [hw1]; exact ((Blk.new w _ _).alloc _).alloc _)
  have X2 := hid (show Blk w1 (w.heap.size + 1) 36 #[.int .i64 (a : Nat), .int .i64 (b : Nat)] by rw [hw1]; exact (Blk.new_at (by simp)).alloc _)
  have X3 := hid (show Blk w1 (w.heap.size + 1 + 1) 27 #[.slice none 0 0, .int .i64 0] by rw [hw1]; exact Blk.new_at (by simp))
  have x0 := X1.out.cell 0; have x1 := X1.out.cell 1; have y0 := X2.out.cell 0; have y1 := X2.out.cell 1; have xz := X1.out.lt; have yz := X2.out.lt
  simp at x0 x1 y0 y1
  have ca := (bcell B1.out _ _ hbl).trans hca
  have cb := (bcell B1.out _ _ hbl).trans hcb
  have bz : bl < w1.heap.size := by have := B1.out.size; omega
  have hai : (a : Int) < l.length := by omega
  have hbi : (b : Int) < l.length := by omega
  have HS := hid ((hs.below B1.out).more B1.out.size)
  have HCL := hid (bclone_any bl ol c l w1 (by omega) HS.out)
  have hab : a ≠ b := fun e => by subst e; rw [hla] at hlb; cases hlb
  clear hs hca hcb hla hlb
  go_enter Try.func7, Try.ntmps7
  go_upto_region 1 with fail
  rw [← hw1]
  clear hw1
  go_upto_region 6 with fail
  go_wp2_with fail
  refine HCL.out.mono ?_
  rintro e w2 ⟨v, rfl, ho, hB⟩
  obtain ⟨g, cap, cur, hv, hg, -, hcc, hcm, -⟩ := own_cell ho (show 0 < l.length by omega)
  subst hv
  have B12 := hid hB
  have HO := hid (show bRK.Own w2 w1.heap.size (.slice (some ⟨g, 0, none⟩) l.length cap) l from ho)
  have X1b := hid (X1.out.below hB X1.out.lt)
  have X2b := hid (X2.out.below hB X2.out.lt)
  have X3b := hid (X3.out.below hB X3.out.lt)
  have hgt := hid hg
  have hcap := hid (And.intro hcc hcm)
  clear ho hB HCL x0 x1 y0 y1 xz yz ca cb bz hg hcc hcm HS X1 X2 X3
  have x0 := X1b.out.cell 0; have x1 := X1b.out.cell 1; have y0 := X2b.out.cell 0; have y1 := X2b.out.cell 1; have xz := X1b.out.lt; have yz := X2b.out.lt; have xf := X1b.out.frozen
  simp at x0 x1 y0 y1
  go_upto_region 7 with fail
  have X1c := hid (show Blk (w2.setCell ⟨w.heap.size, 0, none⟩ (.slice (some ⟨g, 0, none⟩) l.length cap)) w.heap.size 27 #[.slice (some ⟨g, 0, none⟩) l.length cap, .int .i64 t] by have := X1b.out.set_ 0 (.slice (some ⟨g, 0, none⟩) l.length cap); simpa using this)
  have X2c := hid (X2b.out.far (p := ⟨w.heap.size, 0, none⟩) (by simp) (.slice (some ⟨g, 0, none⟩) l.length cap))
  have X3c := hid (X3b.out.far (p := ⟨w.heap.size, 0, none⟩) (by simp; omega) (.slice (some ⟨g, 0, none⟩) l.length cap))
  have HOc := hid (show bRK.Own (w2.setCell ⟨w.heap.size, 0, none⟩ (.slice (some ⟨g, 0, none⟩) l.length cap)) w1.heap.size (.slice (some ⟨g, 0, none⟩) l.length cap) l from own_kt (ts := [4]) HO.out (KT.of_set X1b.out (by decide) _) (by decide))
  have Bc := hid (show Below w.heap.size w (w2.setCell ⟨w.heap.size, 0, none⟩ (.slice (some ⟨g, 0, none⟩) l.length cap)) from (B1.out.trans (B12.out.mono B1.out.size)).setCell (by simp) _)
  clear x0 x1 y0 y1 xz yz xf X1b X2b X3b HO B12
  generalize (w2.setCell ⟨w.heap.size, 0, none⟩ (.slice (some ⟨g, 0, none⟩) l.length cap)) = w7 at *
  have x0 := X1c.out.cell 0; have x1 := X1c.out.cell 1; have y0 := X2c.out.cell 0; have y1 := X2c.out.cell 1
  have xz : w.heap.size < w1.heap.size := by have := hsz.out; omega
  have yz : w.heap.size + 1 < w1.heap.size := by have := hsz.out; omega
  simp at x0 x1 y0 y1
  have HSF := hid (fun (wq : World) (hq : Below w1.heap.size w7 wq) => And.intro ((bcell hq _ _ xz).trans x0) (And.intro ((bcell hq _ _ xz).trans x1) (And.intro ((bcell hq _ _ yz).trans y0) ((bcell hq _ _ yz).trans y1))))
  have BD := hid ((Below.refl w1.heap.size w7).drew)
  have HOd := hid HOc.out.drew
  refine wpIn_wide.1 (wpIn_region_S (n := 0) (fun wq => Below w1.heap.size w7 wq) [] (by kernel_rfl) BD.out (fun hHeld => ?_))
  generalize w7.drew = wd at *
  refine wpAnyG_pure 0 (v := ?_) (fun _ => trivial) (by simp only [List.getElem?_toArray, List.getElem?_cons_succ, List.getElem?_cons_zero]; rfl) (by kernel_rfl) (fun _ _ _ _ _ h => h) ⟨(by rfl), (by intro c h; cases h), ?_⟩ hHeld ?_
  rotate_left
  focus (intro wS hSw; (try replace hSw := HSF.out wS hSw); (try dsimp only at hSw); go_simp; (try with_reducible rfl))
  (try simp only [Act.put, List.setIfInBounds_toArray, List.set_cons_zero, List.set_cons_succ])
  refine wpAnyG_take 1 (v := ?_) (fun _ => trivial) (by simp only [List.getElem?_toArray, List.getElem?_cons_succ, List.getElem?_cons_zero]; rfl) (by kernel_rfl) (fun _ _ _ _ _ h => h) ⟨(by rfl), (by intro c h; cases h), ?_⟩ hHeld ?_
  rotate_left
  focus (intro wS hSw; (try replace hSw := HSF.out wS hSw); (try dsimp only at hSw); go_simp; (try with_reducible rfl))
  (try simp only [Act.put, List.setIfInBounds_toArray, List.set_cons_zero, List.set_cons_succ])
  refine wpAnyG_pure 2 (v := ?_) (fun _ => trivial) (by simp only [List.getElem?_toArray, List.getElem?_cons_succ, List.getElem?_cons_zero]; rfl) (by kernel_rfl) (fun _ _ _ _ _ h => h) ⟨(by rfl), (by intro c h; cases h), ?_⟩ hHeld ?_
  rotate_left
  focus (intro wS hSw; (try replace hSw := HSF.out wS hSw); (try dsimp only at hSw); go_simp; (try with_reducible rfl))
  (try simp only [Act.put, List.setIfInBounds_toArray, List.set_cons_zero, List.set_cons_succ])
  refine wpAnyG_take 3 (v := ?_) (fun _ => trivial) (by simp only [List.getElem?_toArray, List.getElem?_cons_succ, List.getElem?_cons_zero]; rfl) (by kernel_rfl) (fun _ _ _ _ _ h => h) ⟨(by rfl), (by intro c h; cases h), ?_⟩ hHeld ?_
  rotate_left
  focus (intro wS hSw; (try replace hSw := HSF.out wS hSw); (try dsimp only at hSw); go_simp; (try with_reducible rfl))
  (try simp only [Act.put, List.setIfInBounds_toArray, List.set_cons_zero, List.set_cons_succ])
  refine wpAnyG_pure 4 (v := ?_) (fun _ => trivial) (by simp only [List.getElem?_toArray, List.getElem?_cons_succ, List.getElem?_cons_zero]; rfl) (by kernel_rfl) (fun _ _ _ _ _ h => h) ⟨(by rfl), (by intro c h; cases h), ?_⟩ hHeld ?_
  rotate_left
  focus (intro wS hSw; (try replace hSw := HSF.out wS hSw); (try dsimp only at hSw); go_simp; (try with_reducible rfl))
  (try simp only [Act.put, List.setIfInBounds_toArray, List.set_cons_zero, List.set_cons_succ])
  refine wpAnyG_take 5 (v := ?_) (fun _ => trivial) (by simp only [List.getElem?_toArray, List.getElem?_cons_succ, List.getElem?_cons_zero]; rfl) (by kernel_rfl) (fun _ _ _ _ _ h => h) ⟨(by rfl), (by intro c h; cases h), ?_⟩ hHeld ?_
  rotate_left
  focus (intro wS hSw; (try replace hSw := HSF.out wS hSw); (try dsimp only at hSw); go_simp; (try with_reducible rfl))
  (try simp only [Act.put, List.setIfInBounds_toArray, List.set_cons_zero, List.set_cons_succ])
  refine wpAnyG_pure 6 (v := ?_) (fun _ => trivial) (by simp only [List.getElem?_toArray, List.getElem?_cons_succ, List.getElem?_cons_zero]; rfl) (by kernel_rfl) (fun _ _ _ _ _ h => h) ⟨(by rfl), (by intro c h; cases h), ?_⟩ hHeld ?_
  rotate_left
  focus (intro wS hSw; (try replace hSw := HSF.out wS hSw); (try dsimp only at hSw); go_simp; (try with_reducible rfl))
  (try simp only [Act.put, List.setIfInBounds_toArray, List.set_cons_zero, List.set_cons_succ])
  refine wpAnyG_take 7 (v := ?_) (fun _ => trivial) (by simp only [List.getElem?_toArray, List.getElem?_cons_succ, List.getElem?_cons_zero]; rfl) (by kernel_rfl) (fun _ _ _ _ _ h => h) ⟨(by rfl), (by intro c h; cases h), ?_⟩ hHeld ?_
  rotate_left
  focus (intro wS hSw; (try replace hSw := HSF.out wS hSw); (try dsimp only at hSw); go_simp; (try with_reducible rfl))
  (try simp only [Act.put, List.setIfInBounds_toArray, List.set_cons_zero, List.set_cons_succ])
  refine wpAnyG_pure 8 (v := ?_) (fun _ => trivial) (by simp only [List.getElem?_toArray, List.getElem?_cons_succ, List.getElem?_cons_zero]; rfl) (by kernel_rfl) (fun _ _ _ _ _ h => h) ⟨(by rfl), (by intro c h; cases h), ?_⟩ hHeld ?_
  rotate_left
  focus (intro wS hSw; (try replace hSw := HSF.out wS hSw); (try dsimp only at hSw); go_simp; (try with_reducible rfl))
  (try simp only [Act.put, List.setIfInBounds_toArray, List.set_cons_zero, List.set_cons_succ])
  obtain ⟨gz, -, gc, gf⟩ := HOd.out.at_ ha
  have gc0 := gc 0 (show 0 < 1 by omega)
  rw [show bRK.size = 1 from rfl, Nat.mul_one, Nat.add_zero] at gc0
  have gc1 : wd.cell? ⟨g, a, none⟩ = some (.bool l[a]) := gc0
  have gf1 := gf a
  clear gc gc0 gf
  refine wpAnyS_ready [9] (by kernel_rfl) (by simp) (AllReadyS.cons (by simp only [List.getElem?_toArray, List.getElem?_cons_succ, List.getElem?_cons_zero]; rfl) rfl (fun K hK => ?_) AllReadyS.nil)
  go_simp
  have BA := hid (BD.out.setCell (p := ⟨g, a, none⟩) hgt.out (.bool false))
  have HOa := hid (show bRK.Own (wd.setCell ⟨g, a, none⟩ (.bool false)) w1.heap.size (.slice (some ⟨g, 0, none⟩) l.length cap) (l.set a false) from by
    have := HOd.out.set_ ha (j := 0) (show 0 < 1 by omega) (y := false) (u := .bool false) rfl
    rw [show bRK.size = 1 from rfl, Nat.mul_one, Nat.add_zero] at this
    exact this)
  refine hK.out _ _ BA.out ?_
  (try simp only [Act.put, List.setIfInBounds_toArray, List.set_cons_zero, List.set_cons_succ])
  clear hK K hHeld gz gc1 gf1 HOd BD
  generalize (wd.setCell ⟨g, a, none⟩ (.bool false)) = wa at *
  have hHeld := BA.out
  refine wpAnyG_pure 10 (v := ?_) (fun _ => trivial) (by simp only [List.getElem?_toArray, List.getElem?_cons_succ, List.getElem?_cons_zero]; rfl) (by kernel_rfl) (fun _ _ _ _ _ h => h) ⟨(by rfl), (by intro c h; cases h), ?_⟩ hHeld ?_
  rotate_left
  focus (intro wS hSw; (try replace hSw := HSF.out wS hSw); (try dsimp only at hSw); go_simp; (try with_reducible rfl))
  (try simp only [Act.put, List.setIfInBounds_toArray, List.set_cons_zero, List.set_cons_succ])
  have hbs : b < (l.set a false).length := by rw [List.length_set]; exact hb
  obtain ⟨gz, -, gc, gf⟩ := HOa.out.at_ hbs
  have gc0 := gc 0 (show 0 < 1 by omega)
  rw [show bRK.size = 1 from rfl, Nat.mul_one, Nat.add_zero] at gc0
  have gc1 : wa.cell? ⟨g, b, none⟩ = some (.bool (l.set a false)[b]) := gc0
  have gf1 := gf b
  clear gc gc0 gf
  refine wpAnyS_ready [11] (by kernel_rfl) (by simp) (AllReadyS.cons (by simp only [List.getElem?_toArray, List.getElem?_cons_succ, List.getElem?_cons_zero]; rfl) rfl (fun K hK => ?_) AllReadyS.nil)
  go_simp
  have BB := hid (BA.out.setCell (p := ⟨g, b, none⟩) hgt.out (.bool true))
  have HOb := hid (show bRK.Own (wa.setCell ⟨g, b, none⟩ (.bool true)) w1.heap.size (.slice (some ⟨g, 0, none⟩) l.length cap) (doL l a b) from by
    have := HOa.out.set_ hbs (j := 0) (show 0 < 1 by omega) (y := true) (u := .bool true) rfl
    rw [show bRK.size = 1 from rfl, Nat.mul_one, Nat.add_zero] at this
    exact this)
  refine hK.out _ _ BB.out ?_
  (try simp only [Act.put, List.setIfInBounds_toArray, List.set_cons_zero, List.set_cons_succ])
  clear hK K hHeld gz gc1 gf1 HOa BA hbs
  generalize (wa.setCell ⟨g, b, none⟩ (.bool true)) = wb at *
  refine wpAnyS_done (by kernel_rfl) ?_
  clear HSF x0 x1 y0 y1
  have X1d := hid (X1c.out.below BB.out xz)
  have X2d := hid (X2c.out.below BB.out yz)
  have X3d := hid (X3c.out.below BB.out (by have := hsz.out; omega))
  have x0 := X1d.out.cell 0; have x1 := X1d.out.cell 1; have y0 := X2d.out.cell 0; have y1 := X2d.out.cell 1; have z0 := X3d.out.cell 0; have z1 := X3d.out.cell 1
  have xf := X1d.out.frozen; have zf := X3d.out.frozen; have xz2 := X1d.out.lt; have yz2 := X2d.out.lt; have zz2 := X3d.out.lt
  simp at x0 x1 y0 y1 z0 z1
  have Bb := hid (Bc.out.trans (BB.out.mono (by have := B1.out.size; have := Bc.out.size; omega)))
  by_cases hta : t = a
  · have hdt := hid (show doT t a b = b by unfold doT; rw [if_pos hta])
    subst hta
    have X3w := hid (X3d.out.far (p := ⟨w.heap.size, 1, none⟩) (by simp; omega) (.int .i64 (b : Nat)))
    have Bw := hid (Bb.out.setCell (p := ⟨w.heap.size, 1, none⟩) (by simp) (.int .i64 (b : Nat)))
    have HOw := hid (show bRK.Own (wb.setCell ⟨w.heap.size, 1, none⟩ (.int .i64 (b : Nat))) w1.heap.size (.slice (some ⟨g, 0, none⟩) l.length cap) (doL l a b) from own_kt (ts := [4]) HOb.out (KT.of_set X1d.out (by decide) _) (by decide))
    go_wp2_with fail
    have X3e := hid (show Blk (((wb.setCell ⟨w.heap.size, 1, none⟩ (.int .i64 (b : Nat))).setCell ⟨w.heap.size + 1 + 1, 0, none⟩ (.slice (some ⟨g, 0, none⟩) l.length cap)).setCell ⟨w.heap.size + 1 + 1, 1, none⟩ (.int .i64 (b : Nat))) (w.heap.size + 1 + 1) 27 #[.slice (some ⟨g, 0, none⟩) l.length cap, .int .i64 (b : Nat)] from by
      have := (X3w.out.set_ 0 (.slice (some ⟨g, 0, none⟩) l.length cap)).set_ 1 (.int .i64 (b : Nat))
      simpa using this)
    have BZ := hid (show Below w.heap.size w (((wb.setCell ⟨w.heap.size, 1, none⟩ (.int .i64 (b : Nat))).setCell ⟨w.heap.size + 1 + 1, 0, none⟩ (.slice (some ⟨g, 0, none⟩) l.length cap)).setCell ⟨w.heap.size + 1 + 1, 1, none⟩ (.int .i64 (b : Nat))) from (Bw.out.setCell (by simp; omega) _).setCell (by simp; omega) _)
    have HOz := hid (show bRK.Own (((wb.setCell ⟨w.heap.size, 1, none⟩ (.int .i64 (b : Nat))).setCell ⟨w.heap.size + 1 + 1, 0, none⟩ (.slice (some ⟨g, 0, none⟩) l.length cap)).setCell ⟨w.heap.size + 1 + 1, 1, none⟩ (.int .i64 (b : Nat))) w1.heap.size (.slice (some ⟨g, 0, none⟩) l.length cap) (doL l a b) from own_kt (ts := [4]) (own_kt (ts := [4]) HOw.out (KT.of_set X3w.out (by decide) _) (by decide)) (KT.of_set (X3w.out.set_ 0 _) (by decide) _) (by decide))
    generalize (((wb.setCell ⟨w.heap.size, 1, none⟩ (.int .i64 (b : Nat))).setCell ⟨w.heap.size + 1 + 1, 0, none⟩ (.slice (some ⟨g, 0, none⟩) l.length cap)).setCell ⟨w.heap.size + 1 + 1, 1, none⟩ (.int .i64 (b : Nat))) = wz at *
    have e0 := X3e.out.cell 0; have e1 := X3e.out.cell 1
    simp at e0 e1
    refine bodyPost_ret (v := .tuple #[.agg #[.slice (some ⟨g, 0, none⟩) l.length cap, .int .i64 (b : Nat)], .int .i64 0]) (by simp [results, Try.results7, go_sem, e0, e1]) rfl ?_
    obtain ⟨A9, c9, e9, _, _, s9⟩ := HOz.out.slr (fun _ _ => trivial)
    injection e9 with e9
    refine ⟨some ⟨g, 0, none⟩, cap, by rw [hdt.out], hcap.out.1, hcap.out.2, by rw [e9]; exact s9, BZ.out⟩

  · have hdt := hid (show doT t a b = t by unfold doT; rw [if_neg hta])
    have htb : (t == (a : Int)) = false := by simp [hta]
    have X3w := X3d
    have Bw := Bb
    have HOw := HOb
    go_wp2_with fail
    have X3e := hid (show Blk ((wb.setCell ⟨w.heap.size + 1 + 1, 0, none⟩ (.slice (some ⟨g, 0, none⟩) l.length cap)).setCell ⟨w.heap.size + 1 + 1, 1, none⟩ (.int .i64 t)) (w.heap.size + 1 + 1) 27 #[.slice (some ⟨g, 0, none⟩) l.length cap, .int .i64 t] from by
      have := (X3w.out.set_ 0 (.slice (some ⟨g, 0, none⟩) l.length cap)).set_ 1 (.int .i64 t)
      simpa using this)
    have BZ := hid (show Below w.heap.size w ((wb.setCell ⟨w.heap.size + 1 + 1, 0, none⟩ (.slice (some ⟨g, 0, none⟩) l.length cap)).setCell ⟨w.heap.size + 1 + 1, 1, none⟩ (.int .i64 t)) from (Bw.out.setCell (by simp; omega) _).setCell (by simp; omega) _)
    have HOz := hid (show bRK.Own ((wb.setCell ⟨w.heap.size + 1 + 1, 0, none⟩ (.slice (some ⟨g, 0, none⟩) l.length cap)).setCell ⟨w.heap.size + 1 + 1, 1, none⟩ (.int .i64 t)) w1.heap.size (.slice (some ⟨g, 0, none⟩) l.length cap) (doL l a b) from own_kt (ts := [4]) (own_kt (ts := [4]) HOw.out (KT.of_set X3w.out (by decide) _) (by decide)) (KT.of_set (X3w.out.set_ 0 _) (by decide) _) (by decide))
    generalize ((wb.setCell ⟨w.heap.size + 1 + 1, 0, none⟩ (.slice (some ⟨g, 0, none⟩) l.length cap)).setCell ⟨w.heap.size + 1 + 1, 1, none⟩ (.int .i64 t)) = wz at *
    have e0 := X3e.out.cell 0; have e1 := X3e.out.cell 1
    simp at e0 e1
    refine bodyPost_ret (v := .tuple #[.agg #[.slice (some ⟨g, 0, none⟩) l.length cap, .int .i64 t], .int .i64 0]) (by simp [results, Try.results7, go_sem, e0, e1]) rfl ?_
    obtain ⟨A9, c9, e9, _, _, s9⟩ := HOz.out.slr (fun _ _ => trivial)
    injection e9 with e9
    refine ⟨some ⟨g, 0, none⟩, cap, by rw [hdt.out], hcap.out.1, hcap.out.2, by rw [e9]; exact s9, BZ.out⟩

end Go.Proofs.Ytbelaeellcnpmaa
