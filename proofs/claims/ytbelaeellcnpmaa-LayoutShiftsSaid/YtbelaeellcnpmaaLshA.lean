
/- Layouts, shifts: lists of shifts; has, Gets; regions. -/
import Derived.Test.YtbelaeellcnpmaaLayE
import Derived.Test.YtbelaeellcnpmaaFloH
import Derived.Test.YtbelaeellcnpmaaRowG
import Derived.Test.YtbelaeellcnpmaaRegS
set_option linter.unusedSimpArgs false
set_option linter.unusedVariables false
namespace Go.Proofs.Ytbelaeellcnpmaa
open Go.RowKit Go.IntWalk

abbrev Sh := Int × Int
theorem SlR.sh {w : World} {B : Nat} {A : Option Addr} {l : List Sh} (h : SlR w B A l) {k : Nat} (hk : k < l.length) : ∃ b off, A = some ⟨b, off, none⟩ ∧ b < B ∧
    w.cell? ⟨b, off + k * 2, none⟩ = some (.int .i64 l[k].1) ∧ w.cell? ⟨b, off + k * 2 + 1, none⟩ = some (.int .i64 l[k].2) ∧ I64 l[k].1 ∧ I64 l[k].2 := by
  obtain ⟨b, off, es, hA, hb, hs, hc, e1, e2, rfl, _, _, ⟨rfl, i1⟩, rfl, i2⟩ := h k _ (List.getElem?_eq_getElem hk)
  have h4 : Rep.size Sh = 2 := rfl
  rw [h4] at hc
  exact ⟨b, off, hA, hb, by simpa using hc 0 _ rfl, by simpa using hc 1 _ rfl, i1, i2⟩
def shRK : RK Sh where
  e := 36
  t := 30
  size := 2
  bytes := 16
  z := .agg #[.int .i64 0, .int .i64 0]
  cs x := [.int .i64 x.1, .int .i64 x.2]
  ok x := I64 x.1 ∧ I64 x.2
  und := Try.underlying30
  info := by kernel_rfl
  zcs := rfl
  pos := by omega
  small := by omega
  len _ := rfl
  one x v hv := by simp at hv; rcases hv with rfl | rfl <;> rfl
  rsz := rfl
  rep w B x h := ⟨[.int .i64 x.1], [.int .i64 x.2], rfl, rfl, rfl, ⟨rfl, h.1⟩, rfl, h.2⟩
  inv w B c x h := by obtain ⟨c1, c2, rfl, _, _, ⟨rfl, i0⟩, rfl, i1⟩ := h; exact ⟨rfl, i0, i1⟩
def hasN (l : List Sh) (x : Sh) : Bool := l.any (fun y => decide (y = x))
theorem hasN_iff {l : List Sh} {x : Sh} : hasN l x = true ↔ x ∈ l := by simp [hasN]
set_option maxRecDepth 100000 in
set_option maxHeartbeats 2000000 in
theorem has_any (A : Option Addr) (c : Nat) (l : List Sh) (x : Sh) (w : World) (hl : l.length ≤ maxLen) (h : SlR w w.heap.size A l) :
    Calls Try.prog 11 #[.slice A l.length c, .agg #[.int .i64 x.1, .int .i64 x.2]] w fun e w' => e = .returned (.bool (hasN l x)) ∧ Below w.heap.size w w' := by
  obtain ⟨x1, x2⟩ := x
  simp only
  obtain ⟨w1, hw1⟩ : ∃ w1, w1 = (w.alloc (Obj.cells #[.int .i64 x1, .int .i64 x2] 36)) := ⟨_, rfl⟩
  have B1 := hid (show Below w.heap.size w w1 by rw [hw1]; (repeat (first | exact Below.refl _ _ | assumption | refine below_drewN ?_ _ | refine Below.drew ?_ | refine Below.alloc ?_ (by (try simp); (try omega)) _ | refine Below.setCell ?_ (by (try simp); (try omega)) _)))
  have X1 := hid (show Blk w1 w.heap.size 36 #[.int .i64 x1, .int .i64 x2] by rw [hw1]; exact Blk.new w _ _)
  have H := hid ((h.below B1.out).more B1.out.size)
  unfold maxLen at hl
  clear h
  go_enter Try.func11, Try.ntmps11
  go_upto_region 2 with fail
  rw [← hw1]
  clear hw1
  go_loopw [5] (fun i wr => ∃ k : Nat, k ≤ l.length ∧ i = .int .i64 k ∧ (l.take k).any (fun y => decide (y = (x1, x2))) = false ∧ Below w1.heap.size w1 wr) (fun i _ => l.length - (intOf i).toNat)
  case atStart => exact ⟨0, by omega, rfl, by simp, Below.refl _ _⟩
  case round =>
    obtain ⟨k, hk, rfl, hno, hB⟩ := hrel
    have HNO := hid hno
    have HB := hid hB
    have HXr := hid (X1.out.below hB X1.out.lt)
    clear hno hB
    by_cases hlt : k < l.length
    · have hlt' : (k : Int) < l.length := by omega
      obtain ⟨b, off, rfl, hb, g0, g1, -, -⟩ := H.out.sh hlt
      replace g0 := (bcell HB.out _ _ hb).trans g0
      replace g1 := (bcell HB.out _ _ hb).trans g1
      have hz : b < wr.heap.size := by have := HB.out.size; omega
      have x0 := HXr.out.cell 0; have x1' := HXr.out.cell 1; have xz := HXr.out.lt
      simp at x0 x1'
      have hst := hid (show (l.take (k + 1)).any (fun y => decide (y = (x1, x2))) = decide (l[k] = (x1, x2)) by rw [List.take_add_one, List.getElem?_eq_getElem hlt, List.any_append, HNO.out]; simp)
      have hyes := hid (fun (e : l[k] = (x1, x2)) => show hasN l (x1, x2) = true from hasN_iff.2 (e ▸ List.getElem_mem hlt))
      generalize l[k] = y at *
      obtain ⟨y1, y2⟩ := y
      simp only at g0 g1
      have HSF := hid (fun (wq : World) (hq : Below wr.heap.size wr wq) => And.intro ((bcell hq _ _ hz).trans g0) (And.intro ((bcell hq _ _ hz).trans g1) (And.intro ((bcell hq _ _ xz).trans x0) ((bcell hq _ _ xz).trans x1'))))
      have BD := hid ((Below.refl wr.heap.size wr).drew)
      go_upto_region 4 with fail
      refine wpIn_wide.1 (wpIn_region_S (n := 0) (fun wq => Below wr.heap.size wr wq) [] (by kernel_rfl) BD.out (fun hHeld => ?_))
      generalize wr.drew = wd at *
      by_cases e1 : y1 = x1
      · subst e1
        by_cases e2 : y2 = x2
        · subst e2
          refine wpAnyG_pure 0 (v := ?_) (fun _ => trivial) (by simp only [List.getElem?_toArray, List.getElem?_cons_succ, List.getElem?_cons_zero]; rfl) (by kernel_rfl) (fun _ _ _ _ _ h => h) ⟨(by rfl), (by intro c h; cases h), ?_⟩ hHeld ?_
          rotate_left
          focus (intro wS hSw; (try replace hSw := HSF.out wS hSw); (try dsimp only at hSw); go_simp; (try with_reducible rfl))
          (try simp only [Act.put, List.setIfInBounds_toArray, List.set_cons_zero, List.set_cons_succ])
          refine wpAnyG_pure 1 (v := ?_) (fun _ => trivial) (by simp only [List.getElem?_toArray, List.getElem?_cons_succ, List.getElem?_cons_zero]; rfl) (by kernel_rfl) (fun _ _ _ _ _ h => h) ⟨(by rfl), (by intro c h; cases h), ?_⟩ hHeld ?_
          rotate_left
          focus (intro wS hSw; (try replace hSw := HSF.out wS hSw); (try dsimp only at hSw); go_simp; (try with_reducible rfl))
          (try simp only [Act.put, List.setIfInBounds_toArray, List.set_cons_zero, List.set_cons_succ])
          refine wpAnyG_pure 2 (v := ?_) (fun _ => trivial) (by simp only [List.getElem?_toArray, List.getElem?_cons_succ, List.getElem?_cons_zero]; rfl) (by kernel_rfl) (fun _ _ _ _ _ h => h) ⟨(by rfl), (by intro c h; cases h), ?_⟩ hHeld ?_
          rotate_left
          focus (intro wS hSw; (try replace hSw := HSF.out wS hSw); (try dsimp only at hSw); go_simp; (try with_reducible rfl))
          (try simp only [Act.put, List.setIfInBounds_toArray, List.set_cons_zero, List.set_cons_succ])
          refine wpAnyG_take 3 (v := ?_) (fun _ => trivial) (by simp only [List.getElem?_toArray, List.getElem?_cons_succ, List.getElem?_cons_zero]; rfl) (by kernel_rfl) (fun _ _ _ _ _ h => h) ⟨(by rfl), (by intro c h; cases h), ?_⟩ hHeld ?_
          rotate_left
          focus (intro wS hSw; (try replace hSw := HSF.out wS hSw); (try dsimp only at hSw); go_simp; (try with_reducible rfl))
          (try simp only [Act.put, List.setIfInBounds_toArray, List.set_cons_zero, List.set_cons_succ])
          refine wpAnyG_take 4 (v := ?_) (fun _ => trivial) (by simp only [List.getElem?_toArray, List.getElem?_cons_succ, List.getElem?_cons_zero]; rfl) (by kernel_rfl) (fun _ _ _ _ _ h => h) ⟨(by rfl), (by intro c h; cases h), ?_⟩ hHeld ?_
          rotate_left
          focus (intro wS hSw; (try replace hSw := HSF.out wS hSw); (try dsimp only at hSw); go_simp; (try with_reducible rfl))
          (try simp only [Act.put, List.setIfInBounds_toArray, List.set_cons_zero, List.set_cons_succ])
          refine wpAnyG_pure 5 (v := ?_) (fun _ => trivial) (by simp only [List.getElem?_toArray, List.getElem?_cons_succ, List.getElem?_cons_zero]; rfl) (by kernel_rfl) (fun _ _ _ _ _ h => h) ⟨(by rfl), (by intro c h; cases h), ?_⟩ hHeld ?_
          rotate_left
          focus (intro wS hSw; (try replace hSw := HSF.out wS hSw); (try dsimp only at hSw); go_simp; (try with_reducible rfl))
          (try simp only [Act.put, List.setIfInBounds_toArray, List.set_cons_zero, List.set_cons_succ])
          refine wpAnyS_done (by kernel_rfl) ?_
          clear hHeld HSF
          go_wp2_with fail
          go_ret
          exact ⟨ret_bool (hyes.out (by first | rfl | trivial)).symm, B1.out.trans ((HB.out.trans (BD.out.mono HB.out.size)).mono B1.out.size)⟩
        · have hst2 := hid (show (l.take (k + 1)).any (fun y => decide (y = (y1, x2))) = false by rw [hst.out]; simp [e2])
          clear hst hyes
          refine wpAnyG_pure 0 (v := ?_) (fun _ => trivial) (by simp only [List.getElem?_toArray, List.getElem?_cons_succ, List.getElem?_cons_zero]; rfl) (by kernel_rfl) (fun _ _ _ _ _ h => h) ⟨(by rfl), (by intro c h; cases h), ?_⟩ hHeld ?_
          rotate_left
          focus (intro wS hSw; (try replace hSw := HSF.out wS hSw); (try dsimp only at hSw); go_simp; (try with_reducible rfl))
          (try simp only [Act.put, List.setIfInBounds_toArray, List.set_cons_zero, List.set_cons_succ])
          refine wpAnyG_pure 1 (v := ?_) (fun _ => trivial) (by simp only [List.getElem?_toArray, List.getElem?_cons_succ, List.getElem?_cons_zero]; rfl) (by kernel_rfl) (fun _ _ _ _ _ h => h) ⟨(by rfl), (by intro c h; cases h), ?_⟩ hHeld ?_
          rotate_left
          focus (intro wS hSw; (try replace hSw := HSF.out wS hSw); (try dsimp only at hSw); go_simp; (try with_reducible rfl))
          (try simp only [Act.put, List.setIfInBounds_toArray, List.set_cons_zero, List.set_cons_succ])
          refine wpAnyG_pure 2 (v := ?_) (fun _ => trivial) (by simp only [List.getElem?_toArray, List.getElem?_cons_succ, List.getElem?_cons_zero]; rfl) (by kernel_rfl) (fun _ _ _ _ _ h => h) ⟨(by rfl), (by intro c h; cases h), ?_⟩ hHeld ?_
          rotate_left
          focus (intro wS hSw; (try replace hSw := HSF.out wS hSw); (try dsimp only at hSw); go_simp; (try with_reducible rfl))
          (try simp only [Act.put, List.setIfInBounds_toArray, List.set_cons_zero, List.set_cons_succ])
          refine wpAnyG_take 3 (v := ?_) (fun _ => trivial) (by simp only [List.getElem?_toArray, List.getElem?_cons_succ, List.getElem?_cons_zero]; rfl) (by kernel_rfl) (fun _ _ _ _ _ h => h) ⟨(by rfl), (by intro c h; cases h), ?_⟩ hHeld ?_
          rotate_left
          focus (intro wS hSw; (try replace hSw := HSF.out wS hSw); (try dsimp only at hSw); go_simp; (try with_reducible rfl))
          (try simp only [Act.put, List.setIfInBounds_toArray, List.set_cons_zero, List.set_cons_succ])
          refine wpAnyG_take 4 (v := ?_) (fun _ => trivial) (by simp only [List.getElem?_toArray, List.getElem?_cons_succ, List.getElem?_cons_zero]; rfl) (by kernel_rfl) (fun _ _ _ _ _ h => h) ⟨(by rfl), (by intro c h; cases h), ?_⟩ hHeld ?_
          rotate_left
          focus (intro wS hSw; (try replace hSw := HSF.out wS hSw); (try dsimp only at hSw); go_simp; (try with_reducible rfl))
          (try simp only [Act.put, List.setIfInBounds_toArray, List.set_cons_zero, List.set_cons_succ])
          refine wpAnyG_pure 5 (v := ?_) (fun _ => trivial) (by simp only [List.getElem?_toArray, List.getElem?_cons_succ, List.getElem?_cons_zero]; rfl) (by kernel_rfl) (fun _ _ _ _ _ h => h) ⟨(by rfl), (by intro c h; cases h), ?_⟩ hHeld ?_
          rotate_left
          focus (intro wS hSw; (try replace hSw := HSF.out wS hSw); (try dsimp only at hSw); go_simp; (try with_reducible rfl))
          (try simp only [Act.put, List.setIfInBounds_toArray, List.set_cons_zero, List.set_cons_succ])
          refine wpAnyS_done (by kernel_rfl) ?_
          clear hHeld HSF
          go_wp2_with fail
          go_roundw
          case rel => exact ⟨k + 1, by omega, by go_num, hst2.out, HB.out.trans (BD.out.mono HB.out.size)⟩
          case measure => simp [intOf]; omega
      · have hst2 := hid (show (l.take (k + 1)).any (fun y => decide (y = (x1, x2))) = false by rw [hst.out]; simp [e1])
        clear hst hyes
        refine wpAnyG_pure 0 (v := ?_) (fun _ => trivial) (by simp only [List.getElem?_toArray, List.getElem?_cons_succ, List.getElem?_cons_zero]; rfl) (by kernel_rfl) (fun _ _ _ _ _ h => h) ⟨(by rfl), (by intro c h; cases h), ?_⟩ hHeld ?_
        rotate_left
        focus (intro wS hSw; (try replace hSw := HSF.out wS hSw); (try dsimp only at hSw); go_simp; (try with_reducible rfl))
        (try simp only [Act.put, List.setIfInBounds_toArray, List.set_cons_zero, List.set_cons_succ])
        refine wpAnyG_pure 1 (v := ?_) (fun _ => trivial) (by simp only [List.getElem?_toArray, List.getElem?_cons_succ, List.getElem?_cons_zero]; rfl) (by kernel_rfl) (fun _ _ _ _ _ h => h) ⟨(by rfl), (by intro c h; cases h), ?_⟩ hHeld ?_
        rotate_left
        focus (intro wS hSw; (try replace hSw := HSF.out wS hSw); (try dsimp only at hSw); go_simp; (try with_reducible rfl))
        (try simp only [Act.put, List.setIfInBounds_toArray, List.set_cons_zero, List.set_cons_succ])
        refine wpAnyG_pure 2 (v := ?_) (fun _ => trivial) (by simp only [List.getElem?_toArray, List.getElem?_cons_succ, List.getElem?_cons_zero]; rfl) (by kernel_rfl) (fun _ _ _ _ _ h => h) ⟨(by rfl), (by intro c h; cases h), ?_⟩ hHeld ?_
        rotate_left
        focus (intro wS hSw; (try replace hSw := HSF.out wS hSw); (try dsimp only at hSw); go_simp; (try with_reducible rfl))
        (try simp only [Act.put, List.setIfInBounds_toArray, List.set_cons_zero, List.set_cons_succ])
        refine wpAnyG_take 3 (v := ?_) (fun _ => trivial) (by simp only [List.getElem?_toArray, List.getElem?_cons_succ, List.getElem?_cons_zero]; rfl) (by kernel_rfl) (fun _ _ _ _ _ h => h) ⟨(by rfl), (by intro c h; cases h), ?_⟩ hHeld ?_
        rotate_left
        focus (intro wS hSw; (try replace hSw := HSF.out wS hSw); (try dsimp only at hSw); go_simp; (try with_reducible rfl))
        (try simp only [Act.put, List.setIfInBounds_toArray, List.set_cons_zero, List.set_cons_succ])
        refine wpAnyG_take 4 (v := ?_) (fun _ => trivial) (by simp only [List.getElem?_toArray, List.getElem?_cons_succ, List.getElem?_cons_zero]; rfl) (by kernel_rfl) (fun _ _ _ _ _ h => h) ⟨(by rfl), (by intro c h; cases h), ?_⟩ hHeld ?_
        rotate_left
        focus (intro wS hSw; (try replace hSw := HSF.out wS hSw); (try dsimp only at hSw); go_simp; (try with_reducible rfl))
        (try simp only [Act.put, List.setIfInBounds_toArray, List.set_cons_zero, List.set_cons_succ])
        refine wpAnyG_pure 5 (v := ?_) (fun _ => trivial) (by simp only [List.getElem?_toArray, List.getElem?_cons_succ, List.getElem?_cons_zero]; rfl) (by kernel_rfl) (fun _ _ _ _ _ h => h) ⟨(by rfl), (by intro c h; cases h), ?_⟩ hHeld ?_
        rotate_left
        focus (intro wS hSw; (try replace hSw := HSF.out wS hSw); (try dsimp only at hSw); go_simp; (try with_reducible rfl))
        (try simp only [Act.put, List.setIfInBounds_toArray, List.set_cons_zero, List.set_cons_succ])
        refine wpAnyS_done (by kernel_rfl) ?_
        clear hHeld HSF
        go_wp2_with fail
        go_roundw
        case rel => exact ⟨k + 1, by omega, by go_num, hst2.out, HB.out.trans (BD.out.mono HB.out.size)⟩
        case measure => simp [intOf]; omega
    · obtain rfl : k = l.length := by omega
      have hall := hid (show hasN l (x1, x2) = false by have := HNO.out; rw [List.take_length] at this; exact this)
      go_wp2_with fail
      go_ret
      exact ⟨ret_bool hall.out.symm, B1.out.trans (HB.out.mono B1.out.size)⟩
set_option maxRecDepth 100000 in
set_option maxHeartbeats 1000000 in
theorem isCell_any (c : Int) (w : World) : Calls Try.prog 25 #[.int .i64 c] w fun e w' => e = .returned (.bool (decide (0 ≤ c ∧ c < 4096))) ∧ w' = w := by
  by_cases h0 : c < 0
  · go_enter Try.func25, Try.ntmps25
    go_wp2_with fail
    go_ret
    exact ⟨ret_bool (by first | (simp; done) | (simp; omega)), rfl⟩
  · by_cases h1 : c < 4096
    · go_enter Try.func25, Try.ntmps25
      go_wp2_with fail
      go_ret
      exact ⟨ret_bool (by first | (simp; done) | (simp; omega)), rfl⟩
    · go_enter Try.func25, Try.ntmps25
      go_wp2_with fail
      go_ret
      exact ⟨ret_bool (by first | (simp; done) | (simp; omega)), rfl⟩
/-- Does a way lead from a to b? -/
def getsN (W H D : Int) (kind out : List Int) (a b : Int) (k : Nat) : Bool := (List.range k).any (fun d => decide (nextL W H D kind out a ((d : Nat) : Int) = some b))
set_option maxRecDepth 100000 in
set_option maxHeartbeats 2000000 in
theorem gets_any (W H D : Int) (Ak Ao : Option Addr) (ck co : Nat) (kind out : List Int) (a b : Int) (w : World) (h : RF W H D kind out) (hk : SlR w w.heap.size Ak kind) (ho : SlR w w.heap.size Ao out) :
    Calls Try.prog 10 #[.agg #[.int .i64 W, .int .i64 H, .int .i64 D, .slice Ak kind.length ck, .slice Ao out.length co], .int .i64 a, .int .i64 b] w fun e w' => e = .returned (.bool (getsN W H D kind out a b 6)) ∧ Below w.heap.size w w' := by
  obtain ⟨w1, hw1⟩ : ∃ w1, w1 = (w.alloc (Obj.cells #[Value.int .i64 W, Value.int .i64 H, Value.int .i64 D, Value.slice Ak kind.length ck, Value.slice Ao out.length co] 24)) := ⟨_, rfl⟩
  have B1 := hid (show Below w.heap.size w w1 by rw [hw1]; (repeat (first | exact Below.refl _ _ | assumption | refine below_drewN ?_ _ | refine Below.drew ?_ | refine Below.alloc ?_ (by (try simp); (try omega)) _ | refine Below.setCell ?_ (by (try simp); (try omega)) _)))
  have X1 := hid (show Blk w1 w.heap.size 24 #[Value.int .i64 W, Value.int .i64 H, Value.int .i64 D, Value.slice Ak kind.length ck, Value.slice Ao out.length co] by rw [hw1]; exact Blk.new w _ _)
  have HN := hid (fun (d : Nat) (W' : World) (hW : Below w1.heap.size w1 W') => rfnext_any W H D Ak Ao ck co kind out a (d : Int) W' h ((hk.below (B1.out.trans (hW.mono B1.out.size))).more (B1.out.trans (hW.mono B1.out.size)).size) ((ho.below (B1.out.trans (hW.mono B1.out.size))).more (B1.out.trans (hW.mono B1.out.size)).size))
  clear h hk ho
  go_enter Try.func10, Try.ntmps10
  go_upto_region 2 with fail
  rw [← hw1]
  clear hw1
  go_loopw [7] (fun i wr => ∃ k : Nat, k ≤ 6 ∧ i = .int .i64 k ∧ getsN W H D kind out a b k = false ∧ Below w1.heap.size w1 wr) (fun i _ => 6 - (intOf i).toNat)
  case atStart => exact ⟨0, by omega, rfl, by simp [getsN], Below.refl _ _⟩
  case round =>
    obtain ⟨k, hk, rfl, hno, hB⟩ := hrel
    have HNO := hid hno
    have HB := hid hB
    have HXr := hid (X1.out.below hB X1.out.lt)
    have HF := hid (HN.out k wr hB)
    clear hno hB
    obtain ⟨k0, k1, k2, k3, k4⟩ := blk5 HXr.out
    have xz := HXr.out.lt
    by_cases hlt : k < 6
    · have hlt' : (k : Int) < 6 := by omega
      have hst := hid (show getsN W H D kind out a b (k + 1) = decide (nextL W H D kind out a (k : Int) = some b) by
        unfold getsN at HNO ⊢
        rw [List.range_succ, List.any_append, HNO.out]
        simp)
      have hyes := hid (fun (e : nextL W H D kind out a (k : Int) = some b) => show getsN W H D kind out a b 6 = true from List.any_eq_true.2 ⟨k, List.mem_range.2 hlt, decide_eq_true e⟩)
      generalize nextL W H D kind out a (k : Int) = r at *
      go_wp2_with fail
      refine HF.out.mono ?_
      rintro e w2 ⟨rfl, hB2⟩
      have HB2 := hid (HB.out.trans (hB2.mono HB.out.size))
      clear hB2 HF
      cases r with
      | none =>
        unfold nextV
        go_wp2_with fail
        go_roundw
        case rel => exact ⟨k + 1, by omega, by go_num, by rw [hst.out]; simp, HB2.out⟩
        case measure => simp [intOf]; omega
      | some y =>
        unfold nextV
        by_cases hy : y = b
        · subst hy
          go_wp2_with fail
          go_ret
          exact ⟨ret_bool (hyes.out (by first | rfl | trivial)).symm, B1.out.trans (HB2.out.mono B1.out.size)⟩
        · have hyb : (y == b) = false := by simp [hy]
          go_wp2_with fail
          go_roundw
          case rel => exact ⟨k + 1, by omega, by go_num, by rw [hst.out]; simp [hy], HB2.out⟩
          case measure => simp [intOf]; omega
    · obtain rfl : k = 6 := by omega
      go_wp2_with fail
      go_ret
      exact ⟨ret_bool HNO.out.symm, B1.out.trans (HB.out.mono B1.out.size)⟩
end Go.Proofs.Ytbelaeellcnpmaa
