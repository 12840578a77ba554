
/- Journal: disk.Crash. -/
import Derived.Test.YtbefmjodpndndaaDoorJoA
set_option linter.unusedSimpArgs false
set_option linter.unusedVariables false
namespace Go.Proofs.YtbefmjodpndndaaDoor
open Go.RowKit Go.IntWalk

/-- What DeleteFunc leaves. -/
def DelR (w : World) (base : Nat) (v : Value) (n : Nat) (e : Ending) (w' : World) : Prop :=
  ∃ v' l', e = .returned v' ∧ secRK.Own w' base v' l' ∧ l'.length ≤ n ∧ (∀ x ∈ l', SecOK x) ∧ w.grownBy w' v.ownBlock ∧ ∀ g, v'.ownBlock = some g → v.ownBlock = some g
theorem sec_i64 {x : Int × Int} (h : SecOK x) : secRK.ok x := by
  obtain ⟨h1, h2, h3, h4⟩ := h
  exact ⟨⟨by omega, by omega⟩, ⟨by omega, by omega⟩⟩
set_option maxRecDepth 100000 in
set_option maxHeartbeats 4000000 in
theorem sdel_any (f : Int) (gf base : Nat) (v : Value) (l : List (Int × Int)) (w : World) (hl : l.length ≤ 100000000) (ho : secRK.Own w base v l) (hx : ∀ x ∈ l, SecOK x) (hf : Blk w gf 3 #[.int .i64 f]) :
    Calls Tryd.prog 57 #[v, .func (.func 58) #[] #[.pointer (some ⟨gf, 0, none⟩)]] w (DelR w base v l.length) := by
  have eg := enters_of Tryd.func58 (by kernel_rfl) rfl
  obtain ⟨A, c, rfl, hlc, hcm, hs⟩ := ho.slr (fun x h => sec_i64 (hx x h))
  have HI := hid (six_any f gf A c l w hl hs hf)
  have HO := hid ho
  have HX := hid hx
  have HF := hid hf
  have HNF := hid (own_blk_ne ho hf (by decide))
  clear hs ho hx hf
  by_cases h0 : l.length = 0
  · have H0 := hid h0
    clear h0
    go_enter Tryd.func57, Tryd.ntmps57
    go_wp2_with fail
    refine HI.out.mono ?_
    rintro e w2 ⟨r, rfl, hr, hB⟩
    have B2 := hid hB
    obtain rfl : r = -1 := by have := H0.out; omega
    clear hr hB
    go_wp2_with fail
    go_ret
    exact ⟨_, l, rfl, HO.out.below B2.out, Nat.le_refl _, HX.out, gr_below B2.out _, fun g h => h⟩
  obtain ⟨g, rfl⟩ : ∃ g, A = some ⟨g, 0, none⟩ := by
    obtain ⟨g, cap, cur, hv, _⟩ := own_cell HO.out (by omega)
    injection hv with hv
    exact ⟨g, hv⟩
  have H0 := hid h0
  clear h0
  go_enter Tryd.func57, Tryd.ntmps57
  go_wp2_with fail
  refine HI.out.mono ?_
  rintro e w2 ⟨r, rfl, hr, hB⟩
  have B2 := hid hB
  clear hB HI
  rcases hr with rfl | ⟨hr0, hr1⟩
  · go_wp2_with fail
    go_ret
    exact ⟨_, l, rfl, HO.out.below B2.out, Nat.le_refl _, HX.out, gr_below B2.out _, fun g h => h⟩
  obtain ⟨i0, rfl⟩ := Int.eq_ofNat_of_zero_le hr0
  have hi0 : i0 < l.length := by omega
  have hne1 : ((i0 : Int) == -1) = false := by rw [beq_eq_false_iff_ne]; omega
  clear hr0
  obtain ⟨n, hn⟩ : ∃ n, n = l.length := ⟨_, rfl⟩
  have HN := hid hn
  rw [← hn] at hi0 hr1 hl hlc ⊢
  have HO2 := hid (show secRK.Own w2 base (.slice (some ⟨g, 0, none⟩) n c) l by rw [hn]; exact HO.out.below B2.out)
  clear hn
  have hn63 : n ≤ 100000000 := hl
  go_wp2_with fail
  go_loopw [5, 6] (fun iv jv wr => ∃ (i j : Nat) (q : List (Int × Int)), iv = .int .i64 (i : Nat) ∧ jv = .int .i64 (j : Nat) ∧ i < j ∧ j ≤ n ∧ q.length = n ∧ secRK.Own wr base (.slice (some ⟨g, 0, none⟩) n c) q ∧ (∀ x ∈ q, SecOK x) ∧ w.grownBy wr (some g)) (fun _ jv _ => n - (intOf jv).toNat)
  case atStart => exact ⟨i0, i0 + 1, l, rfl, by go_num, by omega, by omega, HN.out.symm, HO2.out, HX.out, gr_below B2.out _⟩
  case round =>
    obtain ⟨i, j, q, rfl, rfl, hij, hj, hq, hO, hX, hG⟩ := hrel
    have HOq := hid hO
    have HXq := hid hX
    have HGq := hid hG
    have HQ := hid hq
    clear hO hX hG hq
    by_cases hjn : j < n
    case neg =>
      obtain rfl : j = n := by omega
      obtain ⟨w3, h1, h2, h3⟩ := clear_sec HOq.out (i := i) (by rw [HQ.out]; exact hij) 0
      rw [HQ.out] at h1
      have H2 := hid h2
      have H3 := hid h3
      clear h2 h3
      have hic : i < c := by omega
      have hicI : (i : Int) < c := by omega
      go_wp2_with fail
      go_ret
      refine ⟨_, q.take i, rfl, H2.out, ?_, fun x hx => HXq.out x (List.mem_of_mem_take hx), gr_tr HGq.out H3.out, fun g' h => h⟩
      rw [List.length_take, HQ.out, ← HN.out]
      omega
    case pos =>
    have hjI : (j : Int) < n := by omega
    obtain ⟨hgl, -, hc, hfz⟩ := HOq.out.at_ (k := j) (by rw [HQ.out]; exact hjn)
    have hjl : j < q.length := by rw [HQ.out]; exact hjn
    have hil : i < q.length := by rw [HQ.out]; omega
    have hc0 : wr.cell? ⟨g, j * 2, none⟩ = some (.int .i64 (q[j]).1) := hc 0 (by decide)
    have hc1 : wr.cell? ⟨g, j * 2 + 1, none⟩ = some (.int .i64 (q[j]).2) := hc 1 (by decide)
    have HXj := hid (HXq.out q[j] (List.getElem_mem _))
    have HJ := hid (And.intro hjl hil)
    clear hc hfz hil
    generalize q[j]'hjl = x at *
    clear hjl
    obtain ⟨x1, x2⟩ := x
    simp only at hc0 hc1
    go_upto_region 8 with fail
    obtain ⟨w3, hw3⟩ : ∃ w3, w3 = wr.alloc (Obj.cells #[Value.int .i64 x1, Value.int .i64 x2] 79) := ⟨_, rfl⟩
    have B3 := hid (show Below wr.heap.size wr w3 by rw [hw3]; (repeat (first | exact Below.refl _ _ | assumption | refine below_drewN ?_ _ | refine Below.drew ?_ | refine Below.alloc ?_ (by (try simp); (try omega)) _ | refine Below.setCell ?_ (by (try simp); (try omega)) _)))
    have X3 := hid (show Blk w3 wr.heap.size 79 #[.int .i64 x1, .int .i64 x2] by rw [hw3]; exact Blk.new wr _ _)
    rw [← hw3]
    clear hw3 hc0 hc1 hgl
    have HF3 := hid ((HF.out.grown HGq.out (fun e => HNF.out e.symm)).below B3.out (HF.out.grown HGq.out (fun e => HNF.out e.symm)).lt)
    have HO3 := hid (HOq.out.below B3.out)
    have HG3 := hid (gr_tr HGq.out (gr_below B3.out (some g)))
    have hgx := hid (show wr.heap.size ≠ g from fun e => by have := (World.ownsRow.lt HOq.out g rfl).2; omega)
    generalize wr.heap.size = gx at *
    have HC := hid (set1_any x1 x2 f gf w3 HF3.out)
    have y0 := X3.out.cell 0; have y1 := X3.out.cell 1; have yz := X3.out.lt
    simp at y0 y1
    go_wp2_with fail
    refine HC.out.mono ?_
    rintro e w4 ⟨rfl, hB⟩
    have B4 := hid hB
    have X4 := hid (X3.out.below B4.out X3.out.lt)
    have HO4 := hid (HO3.out.below B4.out)
    have HG4 := hid (gr_tr HG3.out (gr_below B4.out (some g)))
    clear hB y0 y1 yz HC X3 HO3 HG3
    generalize (x1 == f) = hit at *
    cases hit with
    | true =>
      go_wp2_with fail
      go_roundw
      case rel => exact ⟨i, j + 1, q, rfl, by go_num, by omega, by omega, HQ.out, HO4.out, HXq.out, HG4.out⟩
      case measure => simp [intOf]; omega
    | false =>
      have y0 := X4.out.cell 0; have y1 := X4.out.cell 1; have yz := X4.out.lt
      simp at y0 y1
      obtain ⟨hgl, -, hc, hfz⟩ := HO4.out.at_ (k := i) HJ.out.2
      have hc0 : w4.cell? ⟨g, i * 2, none⟩ = some (.int .i64 (q[i]'HJ.out.2).1) := hc 0 (by decide)
      have hc1 : w4.cell? ⟨g, i * 2 + 1, none⟩ = some (.int .i64 (q[i]'HJ.out.2).2) := hc 1 (by decide)
      have hf0 := hfz (i * 2)
      have hf1 := hfz (i * 2 + 1)
      have hicI : (i : Int) < n := by omega
      clear hc hfz
      have HO5 := hid (show secRK.Own ((w4.setCell ⟨g, i * 2, none⟩ (.int .i64 x1)).setCell ⟨g, i * 2 + 1, none⟩ (.int .i64 x2)) base (.slice (some ⟨g, 0, none⟩) n c) (q.set i (x1, x2)) from by
        have h1 := RK.Own.set_ (R := secRK) HO4.out (k := i) HJ.out.2 (j := 0) (by decide) (y := (x1, (q[i]'HJ.out.2).2)) (u := .int .i64 x1) rfl
        have h2 := RK.Own.set_ (R := secRK) h1 (k := i) (by rw [List.length_set]; exact HJ.out.2) (j := 1) (by decide) (y := (x1, x2)) (u := .int .i64 x2) (by rw [List.getElem_set_self]; rfl)
        rw [List.set_set] at h2
        exact h2)
      have HG5 := hid (gr_tr HG4.out (gr_tr (gr_set w4 g (i * 2) (.int .i64 x1)) (gr_set _ g (i * 2 + 1) (.int .i64 x2))))
      go_wp2_with fail
      go_roundw
      case rel => exact ⟨i + 1, j + 1, q.set i (x1, x2), by go_num, by go_num, by omega, by omega, by rw [List.length_set]; exact HQ.out, HO5.out, fun x hx => by rcases List.mem_or_eq_of_mem_set hx with h | h; exact HXq.out x h; rw [h]; exact HXj.out, HG5.out⟩
      case measure => simp [intOf]; omega
end Go.Proofs.YtbefmjodpndndaaDoor
namespace Go.Proofs.YtbefmjodpndndaaDoor
open Go.RowKit Go.IntWalk Go.Maps

structure SecT where
  a : Int
  b : Int
structure BolT where
  r : Bool
def mkSec (x : SecT) : Value := .agg #[.int .i64 x.a, .int .i64 x.b]
def mkBol (x : BolT) : Value := .bool x.r
theorem sec_inv2 (key : Value) (kl : Lit) (h : keyOf Tryd.prog 79 key = some kl) : ∃ x : SecT, key = mkSec x := by
  obtain ⟨x, h, _⟩ := secKey_inv h
  exact ⟨⟨x.1, x.2⟩, h⟩
theorem bol_inv2 (v : Value) (y : DataW Unit × List MemPlace) (h : plainElem Tryd.prog 4 v = some y) : ∃ x : BolT, v = mkBol x := by
  obtain ⟨x, h⟩ := plain_bool_inv h
  exact ⟨⟨x⟩, h⟩
set_option maxRecDepth 100000 in
set_option maxHeartbeats 4000000 in
theorem mdel_any (f : Int) (gf b m : Nat) (w : World) (h : SOwn w b m) (hf : Blk w gf 3 #[.int .i64 f]) :
    Calls Tryd.prog 59 #[.map (some b), .func (.func 60) #[] #[.pointer (some ⟨gf, 0, none⟩)]] w fun e w' => e = .returned (.tuple #[]) ∧ SOwn w' b m ∧ w.grownBy w' (some b) := by
  have eg := enters_of Tryd.func60 (by kernel_rfl) rfl
  obtain ⟨es, ck, hm⟩ := h.heap
  have hne := hid (cells_ne_map hf hm)
  obtain ⟨D, n, hown, hn⟩ := h
  have HN := hid hn
  have HF := hid hf
  clear hm hn hf
  go_enter Tryd.func59, Tryd.ntmps59
  go_wp2_with (first
    | (at_range; refine wpList_range_own _ rfl _ 57 rfl 79 4 secKeyed Tryd.underlying57 (plainElem Tryd.prog 4) b n _ rfl hown ?_; intro w0 hrg0 hg0 hs0)
    | go_in)
  go_frame
  go_loopw [5] (fun _ wr => ∃ (D : DataW Unit) (left : Lit → Bool) (cnt : Nat), wr.ranges Tryd.prog 79 (plainElem Tryd.prog 4) b w.heap.size n D left cnt ∧ w.grownBy wr (some b))
    (fun _ wr => wr.rangeLeft b w.heap.size)
  case atStart => exact ⟨_, _, _, hrg0, hg0.but _⟩
  case round =>
    clear hrg0 hown hg0 hs0
    obtain ⟨D, left, cnt, hrg, hgw⟩ := hrel
    have HG := hid hgw
    clear hgw
    go_wp2_with (first
      | (at_next; refine wpList_next_ranges _ rfl _ rfl 79 secKeyed (plainElem Tryd.prog 4) mkSec mkBol sec_inv2 bol_inv2 b w.heap.size n _ _ _ rfl hrg ?_ ?_)
      | go_in)
    · intro _ hl0
      go_wp2
      go_end0
      exact ⟨rfl, ⟨_, _, hrg.owns, HN.out⟩, HG.out⟩
    · intro x c kl yd yp w1 cnt1 hkey hlx hv hat hrg1 hlt hg1 hs1 hen
      obtain ⟨x1, x2⟩ := x
      obtain ⟨c⟩ := c
      simp only [mkSec, mkBol] at hkey hen ⊢
      have HG1 := hid (HG.out.andThen hg1 (fun j hj => by cases hj; exact Or.inl (Nat.le_refl _)))
      have HF1 := hid (HF.out.grown HG1.out (fun e => hne.out (by injection e)))
      clear hat hlx hv hg1 hs1
      go_upto_region 3 with fail
      obtain ⟨w2, hw2⟩ : ∃ w2, w2 = w1.alloc (Obj.cells #[Value.int .i64 x1, Value.int .i64 x2] 79) := ⟨_, rfl⟩
      have B2 := hid (show Below w1.heap.size w1 w2 by rw [hw2]; (repeat (first | exact Below.refl _ _ | assumption | refine below_drewN ?_ _ | refine Below.drew ?_ | refine Below.alloc ?_ (by (try simp); (try omega)) _ | refine Below.setCell ?_ (by (try simp); (try omega)) _)))
      have X2 := hid (show Blk w2 w1.heap.size 79 #[.int .i64 x1, .int .i64 x2] by rw [hw2]; exact Blk.new w1 _ _)
      have hrg2 := hid (show w2.ranges Tryd.prog 79 (plainElem Tryd.prog 4) b w.heap.size n D (fun z => left z && !z.sameKey kl) cnt1 by rw [hw2]; exact hrg1.alloc _)
      rw [← hw2]
      clear hw2 hen hrg1
      have HF2 := hid (HF1.out.below B2.out HF1.out.lt)
      have HG2 := hid (gr_tr HG1.out (gr_below B2.out (some b)))
      generalize w1.heap.size = gx at *
      have HC := hid (set2_any x1 x2 c f gf w2 HF2.out)
      have y0 := X2.out.cell 0; have y1 := X2.out.cell 1; have yz := X2.out.lt
      simp at y0 y1
      go_wp2_with fail
      refine HC.out.mono ?_
      rintro e w3 ⟨rfl, hB⟩
      have B3 := hid hB
      have X3 := hid (X2.out.below B3.out X2.out.lt)
      have HG3 := hid (gr_tr HG2.out (gr_below B3.out (some b)))
      have hrg3 := hid (hrg2.out.kept (gr_below B3.out none) (by simp) (by simp))
      clear hB y0 y1 yz HC X2 hrg2 HG2 HF2
      generalize (x1 == f) = hit at *
      cases hit with
      | false =>
        go_wp2_with fail
        go_roundw
        case rel => exact ⟨_, _, cnt1, hrg3.out, HG3.out⟩
        case measure => rw [hrg3.out.left_eq, hrg.left_eq]; exact hlt
      | true =>
        have y0 := X3.out.cell 0; have y1 := X3.out.cell 1; have yz := X3.out.lt
        simp at y0 y1
        have hrg4 := hrg3.out
        go_wp2_with (first
          | (at_delete; refine wpList_delete_ranges _ rfl _ _ 57 79 rfl 4 secKeyed Tryd.underlying57 (plainElem Tryd.prog 4) b w.heap.size n _ _ _ rfl hrg4 _ _ rfl hkey ?_; intro w4 cnt4 hrg5 hle hturn; go_frame)
          | go_in)
        go_roundw
        case rel => exact ⟨_, _, cnt4, hrg5, HG3.out.andThen hturn.grown (fun j hj => by cases hj; exact Or.inr rfl)⟩
        case measure => rw [hrg5.left_eq, hrg.left_eq]; omega
/-- A file made durable. -/
def stS (s : DS) (f : Int) (t : Bs) : DS := { s with fl := fun y => if y = f then (t, t) else s.fl y }
theorem stS_ok {s : DS} (h : s.Ok) (f : Int) (t : Bs) (ht : t.length ≤ 16777216) : (stS s f t).Ok := by
  refine ⟨fun y => ?_, fun y => ?_, h.lost, h.armed⟩ <;> unfold stS <;> simp only <;> split
  · exact ht
  · exact h.now y
  · exact Nat.le_refl _
  · exact h.le y
set_option maxRecDepth 100000 in
set_option maxHeartbeats 4000000 in
theorem settle_any (b base : Nat) (L : DL) (s : DS) (N : Nat) (f : Int) (t : Bs) (w : World) (h : Dsk w base b L s N) (hf : 0 ≤ f ∧ f < 16) (ht : t.length ≤ 16777216) (hN : N + 1 ≤ 50000000) :
    Calls Tryd.prog 47 #[.pointer (some ⟨b, 0, none⟩), .int .i64 f, .string (bs t)] w (DRes w base b L (N + 1) fun e s' => e = .returned (.tuple #[]) ∧ s' = stS s f t) := by
  obtain ⟨w1, hw1⟩ : ∃ w1, w1 = w.alloc (Obj.cells #[.int .i64 f] 3) := ⟨_, rfl⟩
  have B1 := hid (show Below w.heap.size w w1 by rw [hw1]; (repeat (first | exact Below.refl _ _ | assumption | refine below_drewN ?_ _ | refine Below.drew ?_ | refine Below.alloc ?_ (by (try simp); (try omega)) _ | refine Below.setCell ?_ (by (try simp); (try omega)) _)))
  have X1 := hid (show Blk w1 w.heap.size 3 #[.int .i64 f] by rw [hw1]; exact Blk.new w _ _)
  have H1 := hid (h.below B1.out)
  have HOK := hid (stS_ok h.ok f t ht)
  have hi : I64 f := ⟨by omega, by omega⟩
  have hdb := h.lt (k := b) (.inl rfl)
  have HNX := hid (fun (k : Nat) (hk : DFP b L k) => show k ≠ w.heap.size from fun e => by have := (h.lt hk).2; omega)
  clear h hf ht
  go_enter Tryd.func47, Tryd.ntmps47
  go_upto_region 1 with fail
  rw [← hw1]
  clear hw1
  have HC1 := hid (Chg.of_below B1.out.drew (DFP b L))
  have HBASE := hid (show base ≤ w1.heap.size by have := B1.out.size; have := hdb.1; have := hdb.2; omega)
  clear B1
  generalize hgf : w.heap.size = gf at *
  have HGE := hid hgf
  clear hgf
  have H1d := hid (H1.out.below (Below.refl _ w1).drew)
  have X1d := hid X1.out.drew
  have HSF := hid (fun (wq : World) (hq : wq = w1.drew) => show wq.cell? ⟨b, 0, none⟩ = some (.map (some L.mf)) ∧ wq.cell? ⟨gf, 0, none⟩ = some (.int .i64 f) from by rw [hq]; exact ⟨H1d.out.cells.1, X1d.out.cell 0⟩)
  refine wpIn_wide.1 (wpIn_region_S (n := 0) (fun wq => wq = w1.drew) [8] (by kernel_rfl) rfl (fun hHeld => ?_))
  obtain ⟨w2, r1, r2, r3⟩ := H1d.out.f.put hi (by unfold maxLen; omega) (t, t)
  unfold csF at r1
  simp only at r1
  have R2 := hid r2
  have R3 := hid r3
  clear r2 r3
  generalize w1.drew = wd at *
  refine wpAnyS_pure 0 (v := ?_) (fun _ => trivial) (by simp only [List.getElem?_toArray, List.getElem?_cons_succ, List.getElem?_cons_zero]; rfl) (by kernel_rfl) (fun _ _ _ _ _ h => h) ⟨rfl, (by intro c h; cases h), ?_⟩ hHeld ?_
  rotate_left
  focus (intro wS hSw; (try replace hSw := HSF.out wS hSw); (try dsimp only at hSw); go_simp; (try with_reducible rfl))
  (try simp only [Act.put, List.setIfInBounds_toArray, List.set_cons_zero, List.set_cons_succ])
  refine wpAnyS_pure 1 (v := ?_) (fun _ => trivial) (by simp only [List.getElem?_toArray, List.getElem?_cons_succ, List.getElem?_cons_zero]; rfl) (by kernel_rfl) (fun _ _ _ _ _ h => h) ⟨rfl, (by intro c h; cases h), ?_⟩ hHeld ?_
  rotate_left
  focus (intro wS hSw; (try replace hSw := HSF.out wS hSw); (try dsimp only at hSw); go_simp; (try with_reducible rfl))
  (try simp only [Act.put, List.setIfInBounds_toArray, List.set_cons_zero, List.set_cons_succ])
  refine wpAnyS_pure 2 (v := ?_) (fun _ => trivial) (by simp only [List.getElem?_toArray, List.getElem?_cons_succ, List.getElem?_cons_zero]; rfl) (by kernel_rfl) (fun _ _ _ _ _ h => h) ⟨rfl, (by intro c h; cases h), ?_⟩ hHeld ?_
  rotate_left
  focus (intro wS hSw; (try replace hSw := HSF.out wS hSw); (try dsimp only at hSw); go_simp; (try with_reducible rfl))
  (try simp only [Act.put, List.setIfInBounds_toArray, List.set_cons_zero, List.set_cons_succ])
  refine wpAnyS_take 3 (v := ?_) (fun _ => trivial) (by simp only [List.getElem?_toArray, List.getElem?_cons_succ, List.getElem?_cons_zero]; rfl) (by kernel_rfl) (fun _ _ _ _ _ h => h) ⟨rfl, (by intro c h; cases h), ?_⟩ hHeld ?_
  rotate_left
  focus (intro wS hSw; (try replace hSw := HSF.out wS hSw); (try dsimp only at hSw); go_simp; (try with_reducible rfl))
  (try simp only [Act.put, List.setIfInBounds_toArray, List.set_cons_zero, List.set_cons_succ])
  refine wpAnyS_take 4 (v := ?_) (fun _ => trivial) (by simp only [List.getElem?_toArray, List.getElem?_cons_succ, List.getElem?_cons_zero]; rfl) (by kernel_rfl) (fun _ _ _ _ _ h => h) ⟨rfl, (by intro c h; cases h), ?_⟩ hHeld ?_
  rotate_left
  focus (intro wS hSw; (try replace hSw := HSF.out wS hSw); (try dsimp only at hSw); go_simp; (try with_reducible rfl))
  (try simp only [Act.put, List.setIfInBounds_toArray, List.set_cons_zero, List.set_cons_succ])
  refine wpAnyS_pure 5 (v := ?_) (fun _ => trivial) (by simp only [List.getElem?_toArray, List.getElem?_cons_succ, List.getElem?_cons_zero]; rfl) (by kernel_rfl) (fun _ _ _ _ _ h => h) ⟨rfl, (by intro c h; cases h), ?_⟩ hHeld ?_
  rotate_left
  focus (intro wS hSw; (try replace hSw := HSF.out wS hSw); (try dsimp only at hSw); go_simp; (try with_reducible rfl))
  (try simp only [Act.put, List.setIfInBounds_toArray, List.set_cons_zero, List.set_cons_succ])
  refine wpAnyS_pure 6 (v := ?_) (fun _ => trivial) (by simp only [List.getElem?_toArray, List.getElem?_cons_succ, List.getElem?_cons_zero]; rfl) (by kernel_rfl) (fun _ _ _ _ _ h => h) ⟨rfl, (by intro c h; cases h), ?_⟩ hHeld ?_
  rotate_left
  focus (intro wS hSw; (try replace hSw := HSF.out wS hSw); (try dsimp only at hSw); go_simp; (try with_reducible rfl))
  (try simp only [Act.put, List.setIfInBounds_toArray, List.set_cons_zero, List.set_cons_succ])
  refine wpAnyS_pure 7 (v := ?_) (fun _ => trivial) (by simp only [List.getElem?_toArray, List.getElem?_cons_succ, List.getElem?_cons_zero]; rfl) (by kernel_rfl) (fun _ _ _ _ _ h => h) ⟨rfl, (by intro c h; cases h), ?_⟩ hHeld ?_
  rotate_left
  focus (intro wS hSw; (try replace hSw := HSF.out wS hSw); (try dsimp only at hSw); go_simp; (try with_reducible rfl))
  (try simp only [Act.put, List.setIfInBounds_toArray, List.set_cons_zero, List.set_cons_succ])
  refine wpAnyS_ready [8] (by kernel_rfl) (by simp) (AllReadyS.consL (by simp only [List.getElem?_toArray, List.getElem?_cons_succ, List.getElem?_cons_zero]; rfl) rfl (by kernel_rfl) (fun K hK => ?_) AllReadyS.nil)
  go_simp
  refine hK.out _ _ ?_
  (try simp only [Act.put, List.setIfInBounds_toArray, List.set_cons_zero, List.set_cons_succ])
  clear hK K r1 hHeld HSF
  refine wpAnyS_done (by kernel_rfl) ?_
  have HD2 := hid (H1d.out.files R2.out R3.out (by omega) HOK.out)
  have X2 := hid (X1d.out.grown R3.out (fun e => HNX.out L.mf (.inr (.inl rfl)) (by injection e with e; exact e.symm)))
  obtain ⟨s2, hs2⟩ : ∃ s2, s2 = stS s f t := ⟨_, rfl⟩
  have HS2 := hid hs2
  have HD := hid (show Dsk w2 base b L s2 (N + 1) by rw [hs2]; exact HD2.out.1)
  have HC2 := hid (Chg.trans HC1.out HD2.out.2 (fun k _ h => h))
  clear hs2 HD2 R2 R3 H1d X1d HOK H1 X1 HC1
  obtain ⟨l, hq, hl, hx⟩ := HD.out.q
  have HSD := hid (sdel_any f gf base L.q l w2 (by omega) hq hx X2.out)
  have HL := hid hl
  obtain ⟨A, c, hqf, -⟩ := hq.slr (fun x h => sec_i64 (hx x h))
  rw [hqf] at HSD
  have HQF := hid hqf
  have HCD := HD.out.cells.2.1
  rw [hqf] at HCD
  have hlt := HD.out.d.lt
  have hfz := HD.out.d.frozen 1
  clear hq hx hl hqf
  go_wp2_with fail
  refine HSD.out.mono ?_
  rintro e w3 ⟨v', l', rfl, ho, hl', hx', hg, hv'⟩
  rw [← HQF.out] at hg hv'
  obtain ⟨An, mn, cn, rfl⟩ : ∃ A m c, v' = .slice A m c := by obtain ⟨A, c, e⟩ := own_form ho; exact ⟨A, _, c, e⟩
  obtain ⟨qn, hqn⟩ : ∃ qn, qn = Value.slice An mn cn := ⟨_, rfl⟩
  rw [← hqn] at ho hv'
  have HV := hid hv'
  have HQ := hid (HD.out.queue (N' := N + 1) ho hg (fun g h => .inl (hv' g h)) (Nat.le_trans hl' HL.out) hx' (Nat.le_refl _))
  have HQN := hid hqn
  have X3 := hid (show Blk (w3.setCell ⟨b, 1, none⟩ qn) gf 3 #[.int .i64 f] from by
    obtain ⟨l0, hq0, _⟩ := HD.out.q
    exact (X2.out.grown hg (fun e => own_blk_ne hq0 X2.out (by decide) e.symm)).far (X2.out.ne_ HD.out.d (by decide)) _)
  have hd3 := HD.out.d.grown hg (fun e => by obtain ⟨l0, hq0, _⟩ := HD.out.q; exact own_blk_ne hq0 HD.out.d (by decide) e.symm)
  have hc3 := hd3.cell 1; have hf3 := hd3.frozen 1; have hl3 := hd3.lt
  simp at hc3
  clear ho hg hl' hx' hqn HCD hlt hfz HSD hv'
  go_upto_region 3 with fail
  rw [← HQN.out]
  have HD4 := hid HQ.out.1
  have HC4 := hid (Chg.trans HC2.out HQ.out.2 (fun k _ h => h))
  clear hc3 hf3 hl3 hd3 HQ HD HC2 X2
  generalize (w3.setCell ⟨b, 1, none⟩ qn) = w4 at *
  have HM := hid (mdel_any f gf L.ms (N + 1) w4 HD4.out.st X3.out)
  have c2 := HD4.out.cells.2.2.1
  have hlt := HD4.out.d.lt
  simp only at c2
  go_wp2_with fail
  refine HM.out.mono ?_
  rintro e w5 ⟨rfl, hso, hg⟩
  have HD5 := hid (HD4.out.sets hso hg (Nat.le_refl _))
  clear hso hg
  go_wp2_with fail
  go_end0
  refine ⟨{ L with q := qn }, s2, ⟨rfl, HS2.out⟩, HD5.out.1, Chg.trans HC4.out HD5.out.2 (fun k hk h => DFP.q_ (w := w) (fun g hg => .inl (HV.out g hg)) hk h), fun k hk => ?_⟩
  rcases hk with h | h | h | h | h
  · exact .inl (.inl h)
  · exact .inl (.inr (.inl h))
  · exact .inl (.inr (.inr (.inl h)))
  · exact .inl (.inr (.inr (.inr (.inl (HV.out k h)))))
  · exact .inl (.inr (.inr (.inr (.inr h))))
end Go.Proofs.YtbefmjodpndndaaDoor
namespace Go.Proofs.YtbefmjodpndndaaDoor
open Go.RowKit Go.IntWalk Go.Maps Go.ChangeShapes Go.WideShapes Go.MapKept
open Go.WideElems (Fit rd rg pl rd_key rd_val rg_of rd_mk)
open Go.ChangeMaps (setBlock heap_setBlock_same heap_setBlock_other modify_eq_set)

theorem set_self' {α : Type} : ∀ (l : List α) (j : Nat) (a : α), l[j]? = some a → l.set j a = l
  | [], _, _, h => by simp at h
  | b :: r, 0, a, h => by simp at h; subst h; rfl
  | b :: r, j + 1, a, h => by simp at h; simp [set_self' r j a h]
theorem filter_born (q : Nat → Bool) (l : List MapEntry) : (l.filter fun e => q e.born).length = ((l.map (·.born)).filter q).length := by
  induction l with
  | nil => rfl
  | cons a l ih => simp only [List.map_cons, List.filter_cons]; split <;> simp [ih]
section
variable {P : Program} {k t e : TypeId} {R : Value → Option (DataW Unit × List MemPlace)} {w : World} {b r n : Nat} {D : DataW Unit} {left : Lit → Bool} {cnt : Nat}
theorem ranges_put (h : w.ranges P k R b r n D left cnt) (K : Keyed P k) (ht : P.underlying t = some (.map k e)) {key val : Value} {kl : Lit} {yd : DataW Unit} (hkey : keyOf P k key = some kl) (hv : R val = some (yd, [])) (hhas : Maps.has D kl = true) (hroom : n < maxLen) :
    ∃ w', (Instr.mapUpdate t (.map (some b)) key val).run P w = .ok () w' ∧ w'.ranges P k R b r n (D.put kl yd) left cnt ∧ w.grownBy w' (some b) := by
  have hne := h.ne
  obtain ⟨es, clock, since, seen, c0, hb, F, hs, rfl, hr, hold, rfl, hl1, hl2, hsc, hsk⟩ := h
  obtain ⟨es', clock', hrun, F', hput, _, _, hwho⟩ := Maps.fit_store (R' := R) K ht hb F (by omega) (fun x _ _ z hz => hz) hkey hv
  rcases K.find w hkey es.toList F.keys with ⟨h1, h2⟩ | ⟨j, e0, h1, h2, h3⟩
  · exfalso
    obtain ⟨p, hp, hpk⟩ := List.any_eq_true.1 hhas
    obtain ⟨x, hx, rfl⟩ := List.mem_map.1 (mem_sorted.1 hp)
    obtain ⟨y, hy⟩ := F.reads x hx
    have e1 := WideAt.sameKey_eq hpk
    rw [rg_of hy] at e1
    exact h2 x hx (K.inj (e1 ▸ rd_key hy) hkey)
  have hj : es[j]? = some e0 := by simpa using h2
  have hrun2 : (Instr.mapUpdate t (.map (some b)) key val).run P w = .ok () (setBlock w b (.map (es.modify j (fun e' => { e' with key := key, val := val })) clock)) := by
    simp [Instr.mapUpdate, run_underlying ht, MapKept.run_getObj_map hb, K.check w false hkey, h1, hj, h3, K.stays w hkey, MapKept.run_setObj_map _ hb, Result.andThen, setBlock]
  have heq : setBlock w b (.map es' clock') = setBlock w b (.map (es.modify j (fun e' => { e' with key := key, val := val })) clock) := by
    rw [hrun2] at hrun
    injection hrun with _ hrun
    exact hrun.symm
  have hes : es' = es.modify j (fun e' => { e' with key := key, val := val }) ∧ clock' = clock := by
    have g1 := heap_setBlock_same (w := w) hb (.map es' clock')
    rw [heq, heap_setBlock_same hb] at g1
    injection g1 with g1
    injection g1 with g1 g2
    exact ⟨g1.symm, g2.symm⟩
  obtain ⟨rfl, rfl⟩ := hes
  have hl : (es.modify j (fun e' => { e' with key := key, val := val })).toList = es.toList.set j { e0 with key := key, val := val } := by
    rw [Array.toList_modify, modify_eq_set _ _ _ _ h2]
  have hborn : (es.modify j (fun e' => { e' with key := key, val := val })).toList.map (·.born) = es.toList.map (·.born) := by
    rw [hl, List.map_set]
    exact set_self' _ _ _ (by rw [List.getElem?_map, h2]; rfl)
  have hmem : ∀ x ∈ (es.modify j (fun e' => { e' with key := key, val := val })).toList, x ∈ es.toList ∨ x = { e0 with key := key, val := val } := fun x hx => by
    rw [hl] at hx
    exact List.mem_or_eq_of_mem_set hx
  have he0 := List.mem_of_getElem? h2
  have hrg0 : (rg P k R e0).1 = kl := by
    obtain ⟨y, hy⟩ := F.reads e0 he0
    rw [rg_of hy]
    have := rd_key hy
    rw [h3, hkey] at this
    exact (Option.some.inj this).symm
  have hrgn : (rg P k R { e0 with key := key, val := val }).1 = kl := by
    rw [rg_of (rd_mk (born := e0.born) hkey hv)]
  refine ⟨_, hrun, ⟨_, _, since, seen, c0, heap_setBlock_same hb _, F', ?_, ?_, (heap_setBlock_other hb _ hne).trans hr, fun x hx => ?_, ?_, fun x hx => ?_, fun kl' hkl => ?_, hsc, hsk⟩, ?_⟩
  · rw [Array.size_modify]; exact hs
  · rw [DataW.put_eq, hput]
  · rcases hmem x hx with h | rfl
    · exact hold x h
    · exact hold e0 he0
  · have e1 : ∀ a : Array MapEntry, (leftOf a seen).size = (a.toList.filter fun e => !seen.contains e.born).length := fun a => by
      unfold leftOf
      rw [← Array.toList_filter, Array.length_toList]
    rw [e1, e1, filter_born (fun q => !seen.contains q), filter_born (fun q => !seen.contains q), hborn]
  · rcases hmem x hx with h | rfl
    · exact hl1 x h
    · rw [hrgn, ← hrg0]; exact hl1 e0 he0
  · obtain ⟨x, hx, rfl⟩ := hl2 kl' hkl
    obtain ⟨i, hi⟩ := List.getElem?_of_mem hx
    by_cases e1 : i = j
    · subst e1
      rw [h2] at hi
      obtain rfl := Option.some.inj hi
      refine ⟨{ e0 with key := key, val := val }, ?_, hrgn.trans hrg0.symm⟩
      rw [hl]
      exact List.mem_of_getElem? (i := i) (by rw [List.getElem?_set_self (List.getElem?_eq_some_iff.1 h2).1])
    · refine ⟨x, ?_, rfl⟩
      rw [hl]
      exact List.mem_of_getElem? (i := i) (by rw [List.getElem?_set_ne (fun e => e1 e.symm)]; exact hi)
  · exact ⟨rfl, rfl, rfl, by simp [setBlock], fun i _ hi => heap_setBlock_other hb _ (fun e => hi (by rw [e]))⟩
end
theorem own_size {w : World} {b : Nat} {P : Program} {k : TypeId} {R : Value → Option (DataW Unit × List MemPlace)} {n : Nat} {D : DataW Unit} (h : w.ownsMap P k R b n D) : w.ownsMap P k R b (Maps.size D) D := by
  obtain ⟨es, clock, hb, F, _, rfl⟩ := h
  exact ⟨es, clock, hb, F, by simp [Maps.size, length_sorted], rfl⟩
section
variable {w w' : World} {b m : Nat} {fl : Int → Fl}
set_option maxRecDepth 100000 in
theorem FOwn.put_there (h : FOwn w b fl m) {z : Int} (hz : I64 z) (hm : m < maxLen) (hne : fl z ≠ ([], [])) (x : Fl) :
    ∃ w2, (Instr.mapUpdate 56 (.map (some b)) (.int .i64 z) (csF x)).run Tryd.prog w = .ok () w2 ∧ FOwn w2 b (fun y => if y = z then x else fl y) m ∧ w.grownBy w2 (some b) := by
  obtain ⟨D, n, h1, h2, h3⟩ := h
  have hhas : Maps.has D (.int .i64 z) = true := by
    cases hh : Maps.has D (.int .i64 z) with
    | true => rfl
    | false =>
      have := atKey_of_not_has hh (datF ([], []))
      rw [h3 z] at this
      exact absurd (datF_inj this) hne
  obtain ⟨w2, hr, h5, hg⟩ := h1.update intKeyed Tryd.underlying56 (Nat.lt_of_le_of_lt h2 hm) (intKey z hz) (fileR_cs x)
  refine ⟨w2, hr, ⟨D.put (.int .i64 z) (datF x), _, own_size h5, ?_, fun y => ?_⟩, hg⟩
  · rw [size_put (h1.tidy intKeyed), if_pos hhas]
    have := h1.size_le
    omega
  · show _ = datF (if y = z then x else fl y)
    by_cases e : y = z
    · subst e
      rw [if_pos rfl, atKey_put_same h1.isMap (show WideAt.IsKeyLit (.int .i64 y) from trivial)]
    · rw [if_neg e, atKey_put_other (fun h => e (by injection h)), h3 y]
end
end Go.Proofs.YtbefmjodpndndaaDoor
namespace Go.Proofs.YtbefmjodpndndaaDoor
open Go.RowKit Go.IntWalk Go.Maps

/-- What a crash does. -/
def CrashR (s s' : DS) : Prop := s'.down = true ∧ (s.down = true → s' = s) ∧ (s.down = false → s'.armed = 0 ∧ s'.lost = s.lost ∧ ∀ y, Mix (s.fl y).2 (s.fl y).1 (s'.fl y).1 ∧ (s'.fl y).2 = (s'.fl y).1)
/-- The numbers of a list that a crash reads. -/
def KeepAt (w : World) (b mf : Nat) (A : Option Addr) (l : List Int) : Prop := ∀ (k : Nat) (hk : k < l.length), ∃ g off, A = some ⟨g, off, none⟩ ∧ g ≠ b ∧ g ≠ mf ∧ g < w.heap.size ∧ w.cell? ⟨g, off + k, none⟩ = some (.int .i64 l[k])
theorem chg_cell {w w' : World} {S : Nat → Prop} (h : Chg w w' S) {g o : Nat} (hg : g < w.heap.size) (hS : ¬ S g) : w'.cell? ⟨g, o, none⟩ = w.cell? ⟨g, o, none⟩ := cell_kept (h.block g hg hS)
def CB (b mf : Nat) (k : Nat) : Prop := k = b ∨ k = mf
theorem KeepAt.chg {w w' : World} {b mf : Nat} {A : Option Addr} {l : List Int} (h : KeepAt w b mf A l) (hc : Chg w w' (CB b mf)) : KeepAt w' b mf A l := fun k hk => by
  obtain ⟨g, off, hA, h1, h2, h3, h4⟩ := h k hk
  exact ⟨g, off, hA, h1, h2, Nat.lt_of_lt_of_le h3 hc.size, (chg_cell hc h3 (fun e => e.elim h1 h2)).trans h4⟩
/-- The part of a crash in which sectors survive. -/
def SurvR (s : DS) (fl : Int → Fl) : Prop := ∀ y, (fl y).1 = (s.fl y).1 ∧ Mix (s.fl y).2 (s.fl y).1 (fl y).2
theorem SurvR.step {s : DS} {fl : Int → Fl} (h : SurvR s fl) (z : Int) (n : Nat) : SurvR s (fun y => if y = z then ((fl z).1, putL (fl z).2 (n * 64) (((fl z).1.drop (n * 64)).take 64)) else fl y) := fun y => by
  simp only
  split
  · rename_i e
    subst e
    refine ⟨(h y).1, ?_⟩
    rw [(h y).1]
    exact (h y).2.step n
  · exact h y
theorem SurvR.ok {s : DS} {fl : Int → Fl} (h : SurvR s fl) (ho : s.Ok) (d : Bool) : ({ s with fl := fl, down := d, armed := 0 } : DS).Ok := by
  refine ⟨fun f => ?_, fun f => ?_, ho.lost, by simp⟩
  · simp only; rw [(h f).1]; exact ho.now f
  · simp only; rw [(h f).1]; exact ((h f).2.len (ho.le f)).2
theorem Dsk.ne_blk {w : World} {base b : Nat} {L : DL} {s : DS} {N g : Nat} {t : TypeId} {cs : Array Value} (h : Dsk w base b L s N) (hb : Blk w g t cs) (h1 : t ≠ 60) (h2 : t ≠ 79) (h3 : t ≠ 3) : ∀ k, DFP b L k → k ≠ g := by
  obtain ⟨l, hq, _⟩ := h.q
  obtain ⟨l2, hk2, _⟩ := h.k
  obtain ⟨es, ck, hm⟩ := h.f.heap
  obtain ⟨es2, ck2, hm2⟩ := h.st.heap
  rintro k (rfl | rfl | rfl | hk | hk)
  · exact h.d.ne_ hb h1.symm
  · exact fun e => cells_ne_map hb hm e.symm
  · exact fun e => cells_ne_map hb hm2 e.symm
  · exact fun e => own_blk_ne hq hb h2.symm (by rw [hk, e])
  · exact fun e => own_blk_ne hk2 hb h3.symm (by rw [hk, e])
theorem alloc_map_at (w : World) : (w.alloc (.map #[] 0)).heap[w.heap.size]? = some (.map #[] 0) := heap_alloc_new w _
/-- An empty queue, an empty set. -/
theorem Dsk.fresh {w : World} {base b : Nat} {L : DL} {s : DS} {N : Nat} (h : Dsk w base b L s N) (hbase : base ≤ w.heap.size) :
    Dsk (((w.setCell ⟨b, 1, none⟩ (.slice none 0 0)).setCell ⟨b, 2, none⟩ (.map (some w.heap.size))).alloc (.map #[] 0)) base b { L with q := .slice none 0 0, ms := w.heap.size } s N ∧
    Chg w (((w.setCell ⟨b, 1, none⟩ (.slice none 0 0)).setCell ⟨b, 2, none⟩ (.map (some w.heap.size))).alloc (.map #[] 0)) (fun k => k = b) := by
  rw [← World.setCell_alloc_past _ _ _ _ (show b < (w.setCell ⟨b, 1, none⟩ (.slice none 0 0)).heap.size by simpa using h.d.lt), ← World.setCell_alloc_past _ _ _ _ h.d.lt]
  have hb0 : Below w.heap.size w (w.alloc (.map #[] 0)) := by (repeat (first | exact Below.refl _ _ | assumption | refine below_drewN ?_ _ | refine Below.drew ?_ | refine Below.alloc ?_ (by (try simp); (try omega)) _ | refine Below.setCell ?_ (by (try simp); (try omega)) _))
  have h1 := h.below hb0
  have hg := gr_tr (gr_set (w.alloc (.map #[] 0)) b 1 (.slice none 0 0)) (gr_set ((w.alloc (.map #[] 0)).setCell ⟨b, 1, none⟩ (.slice none 0 0)) b 2 (.map (some w.heap.size)))
  obtain ⟨l2, hk2, hl2, hx2⟩ := h1.k
  obtain ⟨es, ck, hm⟩ := h1.f.heap
  have hlt := h.d.lt
  have hflt := h.f.lt
  have hsz : (w.alloc (.map #[] 0)).heap.size = w.heap.size + 1 := by simp
  refine ⟨⟨by simpa using (h1.d.set_ 1 (.slice none 0 0)).set_ 2 (.map (some w.heap.size)), h1.f.at_ (hg.block _ h1.f.lt (fun e => cells_ne_map h1.d hm (by injection e with e; exact e.symm))), ?_, ⟨[], RK.Own.nil, by simp, by simp⟩, ⟨l2, hk2.kept hg (.inr (own_blk_ne hk2 h1.d (by decide))), hl2, hx2⟩, by simp only; omega, ⟨h.hb.1, h.hb.2.1, hbase⟩, h.ok⟩, Chg.trans (Chg.of_below hb0 (fun k => k = b)) (Chg.of_grown hg (fun k e => by injection e)) (fun k _ e => e)⟩
  exact ((SOwn.made w).at_ (hg.block _ (by rw [hsz]; omega) (fun e => by injection e with e; omega))).mono (Nat.zero_le _)
structure FlT where
  x : Fl
def mkFl (c : FlT) : Value := .agg #[.string (bs c.x.1), .string (bs c.x.2)]
theorem fl_inv2 (v : Value) (y : DataW Unit × List MemPlace) (h : fileR v = some y) : ∃ c : FlT, v = mkFl c := by
  obtain ⟨x, h, _⟩ := fileR_inv h
  exact ⟨⟨x⟩, h⟩
theorem int_inv2 (key : Value) (kl : Lit) (h : keyOf Tryd.prog 3 key = some kl) : ∃ z : Int, key = (fun z : Int => Value.int .i64 z) z := by
  obtain ⟨x, h, _⟩ := Maps.keyOf_int_inv Tryd.underlying3 h
  exact ⟨x, h⟩
set_option maxRecDepth 100000 in
set_option maxHeartbeats 8000000 in
theorem crash_any (b base : Nat) (L : DL) (s : DS) (N : Nat) (A : Option Addr) (c : Nat) (kl : List Int) (w : World) (h : Dsk w base b L s N) (hk : kl.length ≤ 65536) (hkp : KeepAt w b L.mf A kl) (hN : N ≤ 50000000) (hbase : base ≤ w.heap.size) :
    Calls Tryd.prog 25 #[.pointer (some ⟨b, 0, none⟩), .slice A kl.length c] w (DRes w base b L N fun e s' => e = .returned (.tuple #[]) ∧ CrashR s s') := by
  cases hd : s.down with
  | true =>
    have c4 := h.cells.2.2.2.2.1
    have hlt := h.d.lt
    rw [hd] at c4
    have H := hid h
    have HD := hid hd
    clear h hd
    go_enter Tryd.func25, Tryd.ntmps25
    go_wp2_with fail
    go_end0
    exact ⟨L, s, ⟨rfl, HD.out, fun _ => rfl, fun h => by rw [HD.out] at h; cases h⟩, H.out, Chg.refl _ _, fun _ h => .inl h⟩
  | false =>
  obtain ⟨c0, c1, c2, c3, c4, c5, c6⟩ := h.cells
  have hlt := h.d.lt
  have hf4 := h.d.frozen 4
  have hf5 := h.d.frozen 5
  rw [hd] at c4
  have e1 := h.set 4 (.bool true) { s with down := true } (by simp) rfl ⟨h.ok.now, h.ok.le, h.ok.lost, h.ok.armed⟩
  have e2 := e1.1.set 5 (.int .i64 0) { s with down := true, armed := 0 } (by simp) rfl ⟨h.ok.now, h.ok.le, h.ok.lost, by simp⟩
  have H1 := hid e2.1
  have G1 := hid (show Chg w ((w.setCell ⟨b, 4, none⟩ (.bool true)).setCell ⟨b, 5, none⟩ (.int .i64 0)) (CB b L.mf) from Chg.of_grown (gr_tr (gr_set w b 4 (.bool true)) (gr_set _ b 5 (.int .i64 0))) (fun k e => .inl (by injection e)))
  have HKP := hid hkp
  have HOK := hid h.ok
  have HD := hid hd
  clear h hd e1 e2 hkp c0 c1 c2 c3 c6
  go_enter Tryd.func25, Tryd.ntmps25
  go_upto_region 2 with fail
  obtain ⟨w1, hw1⟩ : ∃ w1, w1 = ((w.setCell ⟨b, 4, none⟩ (.bool true)).setCell ⟨b, 5, none⟩ (.int .i64 0)) := ⟨_, rfl⟩
  rw [← hw1] at H1 G1 ⊢
  clear hw1 c4 c5 hf4 hf5
  obtain ⟨q, hq, hql, hqx⟩ := H1.out.q
  obtain ⟨B, cq, hqf⟩ := own_form hq
  obtain ⟨nq, hnq⟩ : ∃ nq, nq = q.length := ⟨_, rfl⟩
  rw [← hnq] at hqf hql
  have c1 := H1.out.cells.2.1
  have HQF := hid hqf
  rw [hqf] at c1
  have hlt1 := H1.out.d.lt
  clear hq hqx hqf hnq
  have hqb : nq ≤ 50000000 := by omega
  clear hql q
  go_wp2_with fail
  go_loopw [25] (fun i wr => ∃ (k : Nat) (fl' : Int → Fl), k ≤ nq ∧ i = .int .i64 (k : Nat) ∧ Dsk wr base b L { s with fl := fl', down := true, armed := 0 } N ∧ SurvR s fl' ∧ Chg w wr (CB b L.mf)) (fun i _ => nq - (intOf i).toNat)
  case atStart => exact ⟨0, s.fl, by omega, rfl, H1.out, fun y => ⟨rfl, Mix.refl _ _⟩, G1.out⟩
  case round =>
    clear H1 c1 hlt1
    obtain ⟨k, fl', hk', rfl, hD, hS, hC⟩ := hrel
    have HDr := hid hD
    have HSr := hid hS
    have HCr := hid hC
    clear hD hS hC
    by_cases hlk : k < nq
    case neg =>
      obtain rfl : k = nq := by omega
      generalize wr = wo at *
      have hDc := HDr.out.cells.1
      have hltr := HDr.out.d.lt
      obtain ⟨D, n, hown, hn, hat0⟩ := HDr.out.f
      have HAT0 := hid hat0
      have HN := hid hn
      clear hat0 hn
      as_aux_lemma => --dev
        go_wp2_with (first
          | (at_range; refine wpList_range_own _ rfl _ 56 rfl 3 81 intKeyed Tryd.underlying56 fileR L.mf n _ rfl hown ?_; intro w0 hrg0 hg0 hs0)
          | go_in)
        (try go_frame)
        go_loopw [8] (fun _ wq => ∃ (D : DataW Unit) (left : Lit → Bool) (cnt : Nat), wq.ranges Tryd.prog 3 fileR L.mf wo.heap.size n D left cnt ∧ Hid (∀ z, D.atKey (.int .i64 z) (datF ([], [])) = datF (if left (.int .i64 z) = true then fl' z else ((fl' z).2, (fl' z).2))) ∧ Hid (wo.grownBy wq (some L.mf)))
          (fun _ wq => wq.rangeLeft L.mf wo.heap.size)
        case atStart =>
          refine ⟨_, _, _, hrg0, hid (fun z => ?_), hid (hg0.but _)⟩
          rw [HAT0.out z]
          cases hh : Maps.has D (.int .i64 z) with
          | true => rw [if_pos rfl]
          | false =>
            have h1 := atKey_of_not_has hh (datF ([], []))
            rw [HAT0.out z] at h1
            have h2 := datF_inj h1.symm
            rw [if_neg (by simp), ← h2]
        case round =>
          clear hrg0 hown hg0 hs0
          obtain ⟨D, left, cnt, hrg, HA, HG⟩ := hrel
          go_wp2_with (first
            | (at_next; refine wpList_next_ranges _ rfl _ rfl 3 intKeyed fileR (fun z : Int => Value.int .i64 z) mkFl int_inv2 fl_inv2 L.mf wo.heap.size n _ _ _ rfl hrg ?_ ?_)
            | go_in)
          · intro _ hl0
            have HF := hid (show FOwn wr L.mf (fun z => ((fl' z).2, (fl' z).2)) N from ⟨D, n, hrg.owns, HN.out, fun z => by rw [HA.out z, hl0]; rfl⟩)
            have H2 := hid (HDr.out.files (fl' := fun z => ((fl' z).2, (fl' z).2)) HF.out HG.out (Nat.le_refl _) ⟨fun f => by have h1 := HSr.out.ok HOK.out true; have h2 := h1.now f; have h3 := h1.le f; simp only at h2 h3 ⊢; omega, fun f => Nat.le_refl _, HOK.out.lost, by simp⟩)
            have HC2 := hid (Chg.trans HCr.out (Chg.of_grown HG.out (S := CB b L.mf) (fun k e => .inr (by injection e))) (fun k _ h => h))
            clear hrg HA HF hl0 HDr
            have d1 := H2.out.1.cells.2.1
            have d2 := H2.out.1.cells.2.2.1
            have dl := H2.out.1.d.lt
            have df := H2.out.1.d.frozen
            rw [HQF.out] at d1
            have hmm := @run_makeMap Tryd.prog
            have HR := hid (H2.out.1.fresh (Nat.le_trans hbase HC2.out.size))
            go_wp2_with fail
            go_end0
            refine ⟨_, ({ s with fl := fun z => ((fl' z).2, (fl' z).2), down := true, armed := 0 } : DS), ⟨rfl, ⟨rfl, (fun h => by rw [HD.out] at h; cases h), fun _ => ⟨rfl, rfl, fun y => ⟨(HSr.out y).2, rfl⟩⟩⟩⟩, HR.out.1, Chg.trans (HC2.out.mono (fun k h => h.elim .inl (fun h => .inr (.inl h)))) HR.out.2 (fun k _ e => .inl e), fun k hk => ?_⟩
            rcases hk with h | h | h | h | h
            · exact .inl (.inl h)
            · exact .inl (.inr (.inl h))
            · exact .inr (by rw [h]; exact HC2.out.size)
            · cases h
            · exact .inl (.inr (.inr (.inr (.inr h))))
          · intro z cc kk yd yp w2 cnt1 hkey hlx hv hat hrg1 hlt hg1 hs1 hen
            obtain ⟨z0, hz, hkk, hzw⟩ := Maps.keyOf_int_inv Tryd.underlying3 hkey
            injection hz with _ hz
            subst hz
            subst hkk
            obtain ⟨x⟩ := cc
            have hyd : yd = datF x := by
              have h1 : fileR (csF x) = some (yd, yp) := hv
              rw [fileR_cs] at h1
              injection h1 with h1
              injection h1 with h1 _
              exact h1.symm
            have hxe : fl' z = x := by
              have h1 := HA.out z
              rw [hat, hlx, if_pos rfl, hyd] at h1
              exact (datF_inj h1).symm
            have HXE := hid hxe
            have hhas := has_true_of_atKey hat
            have HG2 := hid (HG.out.andThen hg1 (fun j hj => by cases hj; exact Or.inl (Nat.le_refl _)))
            have HI := hid (wf_i64' hzw)
            have HHAS := hid hhas
            obtain ⟨x1, x2⟩ := x
            simp only [mkFl] at hen ⊢
            clear hv hat hyd hxe hhas hg1 hs1 hlx hzw
            go_upto_region 13 with fail
            obtain ⟨w3, hw3⟩ : ∃ w3, w3 = w2.alloc (Obj.cells #[Value.string (bs x1), Value.string (bs x2)] 81) := ⟨_, rfl⟩
            have B3 := hid (show Below w2.heap.size w2 w3 by rw [hw3]; (repeat (first | exact Below.refl _ _ | assumption | refine below_drewN ?_ _ | refine Below.drew ?_ | refine Below.alloc ?_ (by (try simp); (try omega)) _ | refine Below.setCell ?_ (by (try simp); (try omega)) _)))
            have X3 := hid (show Blk w3.drew w2.heap.size 81 #[.string (bs x1), .string (bs x2)] by rw [hw3]; exact Blk.drew (Blk.new w2 _ _))
            have hrg3 := hid (show w3.drew.ranges Tryd.prog 3 fileR L.mf wo.heap.size n D (fun z_1 => left z_1 && !z_1.sameKey (Lit.int IntKind.i64 z)) cnt1 from (hrg1.kept (gr_below B3.out none) (by simp) (by simp)).kept (gr_drew w3 none) (by simp) (by simp))
            have HG3 := hid (gr_tr (gr_tr HG2.out (gr_below B3.out (some L.mf))) (gr_drew w3 (some L.mf)))
            rw [← hw3]
            clear hw3 hen
            generalize w2.heap.size = gx at *
            obtain ⟨es, ck, hm⟩ := HDr.out.f.heap
            have D3 := hid (HDr.out.d.grown HG3.out (fun e => cells_ne_map HDr.out.d hm (by injection e)))
            clear hm
            have HSF := hid (fun (wq : World) (hq : wq = w3.drew) => show wq.cell? ⟨b, 0, none⟩ = some (.map (some L.mf)) ∧ wq.cell? ⟨gx, 0, none⟩ = some (.string (bs x1)) ∧ wq.cell? ⟨gx, 1, none⟩ = some (.string (bs x2)) from by rw [hq]; exact ⟨D3.out.cell 0, X3.out.cell 0, X3.out.cell 1⟩)
            refine wpIn_wide.1 (wpIn_region_S (n := 0) (fun wq => wq = w3.drew) [10] (by kernel_rfl) rfl (fun hHeld => ?_))
            obtain ⟨w4, r1, r2, r3⟩ := ranges_put (t := 56) (e := 81) hrg3.out intKeyed Tryd.underlying56 (intKey z HI.out) (fileR_cs (x2, x2)) HHAS.out (by have := HN.out; unfold maxLen; omega)
            unfold csF at r1
            simp only at r1
            have R2 := hid r2
            have R3 := hid r3
            clear r2 r3
            generalize w3.drew = wd at *
            refine wpAnyS_pure 0 (v := ?_) (fun _ => trivial) (by simp only [List.getElem?_toArray, List.getElem?_cons_succ, List.getElem?_cons_zero]; rfl) (by kernel_rfl) (fun _ _ _ _ _ h => h) ⟨rfl, (by intro c h; cases h), ?_⟩ hHeld ?_
            rotate_left
            focus (intro wS hSw; (try replace hSw := HSF.out wS hSw); (try dsimp only at hSw); go_simp; (try with_reducible rfl))
            (try simp only [Act.put, List.setIfInBounds_toArray, List.set_cons_zero, List.set_cons_succ])
            refine wpAnyS_pure 1 (v := ?_) (fun _ => trivial) (by simp only [List.getElem?_toArray, List.getElem?_cons_succ, List.getElem?_cons_zero]; rfl) (by kernel_rfl) (fun _ _ _ _ _ h => h) ⟨rfl, (by intro c h; cases h), ?_⟩ hHeld ?_
            rotate_left
            focus (intro wS hSw; (try replace hSw := HSF.out wS hSw); (try dsimp only at hSw); go_simp; (try with_reducible rfl))
            (try simp only [Act.put, List.setIfInBounds_toArray, List.set_cons_zero, List.set_cons_succ])
            refine wpAnyS_pure 2 (v := ?_) (fun _ => trivial) (by simp only [List.getElem?_toArray, List.getElem?_cons_succ, List.getElem?_cons_zero]; rfl) (by kernel_rfl) (fun _ _ _ _ _ h => h) ⟨rfl, (by intro c h; cases h), ?_⟩ hHeld ?_
            rotate_left
            focus (intro wS hSw; (try replace hSw := HSF.out wS hSw); (try dsimp only at hSw); go_simp; (try with_reducible rfl))
            (try simp only [Act.put, List.setIfInBounds_toArray, List.set_cons_zero, List.set_cons_succ])
            refine wpAnyS_take 3 (v := ?_) (fun _ => trivial) (by simp only [List.getElem?_toArray, List.getElem?_cons_succ, List.getElem?_cons_zero]; rfl) (by kernel_rfl) (fun _ _ _ _ _ h => h) ⟨rfl, (by intro c h; cases h), ?_⟩ hHeld ?_
            rotate_left
            focus (intro wS hSw; (try replace hSw := HSF.out wS hSw); (try dsimp only at hSw); go_simp; (try with_reducible rfl))
            (try simp only [Act.put, List.setIfInBounds_toArray, List.set_cons_zero, List.set_cons_succ])
            refine wpAnyS_pure 4 (v := ?_) (fun _ => trivial) (by simp only [List.getElem?_toArray, List.getElem?_cons_succ, List.getElem?_cons_zero]; rfl) (by kernel_rfl) (fun _ _ _ _ _ h => h) ⟨rfl, (by intro c h; cases h), ?_⟩ hHeld ?_
            rotate_left
            focus (intro wS hSw; (try replace hSw := HSF.out wS hSw); (try dsimp only at hSw); go_simp; (try with_reducible rfl))
            (try simp only [Act.put, List.setIfInBounds_toArray, List.set_cons_zero, List.set_cons_succ])
            refine wpAnyS_pure 5 (v := ?_) (fun _ => trivial) (by simp only [List.getElem?_toArray, List.getElem?_cons_succ, List.getElem?_cons_zero]; rfl) (by kernel_rfl) (fun _ _ _ _ _ h => h) ⟨rfl, (by intro c h; cases h), ?_⟩ hHeld ?_
            rotate_left
            focus (intro wS hSw; (try replace hSw := HSF.out wS hSw); (try dsimp only at hSw); go_simp; (try with_reducible rfl))
            (try simp only [Act.put, List.setIfInBounds_toArray, List.set_cons_zero, List.set_cons_succ])
            refine wpAnyS_take 6 (v := ?_) (fun _ => trivial) (by simp only [List.getElem?_toArray, List.getElem?_cons_succ, List.getElem?_cons_zero]; rfl) (by kernel_rfl) (fun _ _ _ _ _ h => h) ⟨rfl, (by intro c h; cases h), ?_⟩ hHeld ?_
            rotate_left
            focus (intro wS hSw; (try replace hSw := HSF.out wS hSw); (try dsimp only at hSw); go_simp; (try with_reducible rfl))
            (try simp only [Act.put, List.setIfInBounds_toArray, List.set_cons_zero, List.set_cons_succ])
            refine wpAnyS_pure 7 (v := ?_) (fun _ => trivial) (by simp only [List.getElem?_toArray, List.getElem?_cons_succ, List.getElem?_cons_zero]; rfl) (by kernel_rfl) (fun _ _ _ _ _ h => h) ⟨rfl, (by intro c h; cases h), ?_⟩ hHeld ?_
            rotate_left
            focus (intro wS hSw; (try replace hSw := HSF.out wS hSw); (try dsimp only at hSw); go_simp; (try with_reducible rfl))
            (try simp only [Act.put, List.setIfInBounds_toArray, List.set_cons_zero, List.set_cons_succ])
            refine wpAnyS_take 8 (v := ?_) (fun _ => trivial) (by simp only [List.getElem?_toArray, List.getElem?_cons_succ, List.getElem?_cons_zero]; rfl) (by kernel_rfl) (fun _ _ _ _ _ h => h) ⟨rfl, (by intro c h; cases h), ?_⟩ hHeld ?_
            rotate_left
            focus (intro wS hSw; (try replace hSw := HSF.out wS hSw); (try dsimp only at hSw); go_simp; (try with_reducible rfl))
            (try simp only [Act.put, List.setIfInBounds_toArray, List.set_cons_zero, List.set_cons_succ])
            refine wpAnyS_pure 9 (v := ?_) (fun _ => trivial) (by simp only [List.getElem?_toArray, List.getElem?_cons_succ, List.getElem?_cons_zero]; rfl) (by kernel_rfl) (fun _ _ _ _ _ h => h) ⟨rfl, (by intro c h; cases h), ?_⟩ hHeld ?_
            rotate_left
            focus (intro wS hSw; (try replace hSw := HSF.out wS hSw); (try dsimp only at hSw); go_simp; (try with_reducible rfl))
            (try simp only [Act.put, List.setIfInBounds_toArray, List.set_cons_zero, List.set_cons_succ])
            refine wpAnyS_ready [10] (by kernel_rfl) (by simp) (AllReadyS.consL (by simp only [List.getElem?_toArray, List.getElem?_cons_succ, List.getElem?_cons_zero]; rfl) rfl (by kernel_rfl) (fun K hK => ?_) AllReadyS.nil)
            go_simp
            refine hK.out _ _ ?_
            (try simp only [Act.put, List.setIfInBounds_toArray, List.set_cons_zero, List.set_cons_succ])
            clear hK K hHeld HSF r1
            refine wpAnyS_done (by kernel_rfl) ?_
            go_wp2_with fail
            go_roundw
            case rel =>
              refine ⟨_, _, cnt1, R2.out, hid (fun z' => ?_), hid (gr_tr HG3.out R3.out)⟩
              by_cases e : z' = z
              · subst e
                rw [atKey_put_same hrg3.out.owns.isMap (show WideAt.IsKeyLit (.int .i64 z') from trivial), WideAt.sameKey_self (show WideAt.IsKeyLit (.int .i64 z') from trivial), HXE.out]
                simp
              · have hs : (Lit.int IntKind.i64 z').sameKey (Lit.int IntKind.i64 z) = false := Maps.sameKey_ne (fun h => e (by injection h))
                rw [atKey_put_other (fun h => e (by injection h)), HA.out z', hs]
                simp
            case measure => rw [R2.out.left_eq, hrg.left_eq]; exact hlt
    case pos =>
    have hlI : (k : Int) < nq := by omega
    as_aux_lemma =>
      obtain ⟨q2, hq2, hl2, hx2⟩ := HDr.out.q
      obtain ⟨A2, c2, hf2⟩ := own_form hq2
      have hlen : q2.length = nq := by rw [HQF.out] at hf2; injection hf2 with _ e _; exact e.symm
      obtain ⟨g, cap, cur, hvf, -, -⟩ := own_cell hq2 (by omega)
      rw [HQF.out] at hvf
      injection hvf with hBg e1 e2
      clear e1 e2
      subst hBg
      rw [HQF.out] at hq2
      have hk2 : k < q2.length := by omega
      obtain ⟨hgl, -, hcc, -⟩ := RK.Own.at_ (R := secRK) hq2 (k := k) hk2
      have hc0 : wr.cell? ⟨g, k * 2, none⟩ = some (.int .i64 (q2[k]).1) := hcc 0 (by decide)
      have hc1 : wr.cell? ⟨g, k * 2 + 1, none⟩ = some (.int .i64 (q2[k]).2) := hcc 1 (by decide)
      have HX := hid (hx2 q2[k] (List.getElem_mem _))
      clear hcc hq2 hl2 hx2 hf2 hlen
      generalize q2[k]'hk2 = x at *
      clear hk2
      obtain ⟨x1, x2⟩ := x
      obtain ⟨hx1, hx2, hx3, hx4⟩ := HX.out
      simp only at hc0 hc1 hx1 hx2 hx3 hx4
      obtain ⟨m, rfl⟩ := Int.eq_ofNat_of_zero_le hx3
      go_upto_region 5 with fail
      obtain ⟨w5, hw5⟩ : ∃ w5, w5 = wr.alloc (Obj.cells #[Value.int .i64 x1, Value.int .i64 (m : Int)] 79) := ⟨_, rfl⟩
      have B5 := hid (show Below wr.heap.size wr w5 by rw [hw5]; (repeat (first | exact Below.refl _ _ | assumption | refine below_drewN ?_ _ | refine Below.drew ?_ | refine Below.alloc ?_ (by (try simp); (try omega)) _ | refine Below.setCell ?_ (by (try simp); (try omega)) _)))
      have X5 := hid (show Blk w5 wr.heap.size 79 #[.int .i64 x1, .int .i64 (m : Int)] by rw [hw5]; exact Blk.new wr _ _)
      rw [← hw5]
      clear hw5 hc0 hc1 hgl
      have H5 := hid (HDr.out.below B5.out)
      have HC5 := hid (Chg.trans HCr.out (Chg.of_below B5.out (CB b L.mf)) (fun k _ h => h))
      clear HDr HCr B5
      generalize wr.heap.size = gs at *
      have hi1 : I64 x1 := ⟨by omega, by omega⟩
      obtain ⟨p, hp⟩ : ∃ p, p = m * 64 := ⟨_, rfl⟩
      have hwm : IntKind.i64.wrap ((m : Int) * 64) = (p : Int) := (i64_in _ (by omega)).trans (by omega)
      have HP := hid hp
      have hpb : p ≤ 64000000 := by omega
      clear hp
      obtain ⟨y, hy⟩ : ∃ y, y = fl' x1 := ⟨_, rfl⟩
      have HY := hid hy
      obtain ⟨y1, y2⟩ := y
      have HSF := hid (fun (wq : World) (hq : Below w5.heap.size w5 wq) => show wq.cell? ⟨b, 0, none⟩ = some (.map (some L.mf)) ∧ wq.cell? ⟨gs, 0, none⟩ = some (.int .i64 x1) ∧ wq.cell? ⟨gs, 1, none⟩ = some (.int .i64 (m : Int)) ∧ (Instr.lookup 56 (.map (some L.mf)) (.int .i64 x1) false).run Tryd.prog wq = .ok (.agg #[.string (bs y1), .string (bs y2)]) wq ∧ b < wq.heap.size ∧ gs < wq.heap.size from by
        have h9 := H5.out.below hq
        have x9 := X5.out.below hq X5.out.lt
        have lk := h9.f.look hi1
        simp only at lk
        rw [← hy] at lk
        exact ⟨h9.cells.1, x9.cell 0, x9.cell 1, lk, h9.d.lt, x9.lt⟩)
      clear hy
      have BD := hid ((Below.refl w5.heap.size w5).drew)
      refine wpIn_wide.1 (wpIn_region_S (n := 0) (fun wq => Below w5.heap.size w5 wq) [] (by kernel_rfl) BD.out (fun hHeld => ?_))
      generalize w5.drew = wd at *
      refine wpAnyS_pure 0 (v := ?_) (fun _ => trivial) (by simp only [List.getElem?_toArray, List.getElem?_cons_succ, List.getElem?_cons_zero]; rfl) (by kernel_rfl) (fun _ _ _ _ _ h => h) ⟨rfl, (by intro c h; cases h), ?_⟩ hHeld ?_
      rotate_left
      focus (intro wS hSw; (try replace hSw := HSF.out wS hSw); (try dsimp only at hSw); go_simp; (try with_reducible rfl))
      (try simp only [Act.put, List.setIfInBounds_toArray, List.set_cons_zero, List.set_cons_succ])
      refine wpAnyS_pure 1 (v := ?_) (fun _ => trivial) (by simp only [List.getElem?_toArray, List.getElem?_cons_succ, List.getElem?_cons_zero]; rfl) (by kernel_rfl) (fun _ _ _ _ _ h => h) ⟨rfl, (by intro c h; cases h), ?_⟩ hHeld ?_
      rotate_left
      focus (intro wS hSw; (try replace hSw := HSF.out wS hSw); (try dsimp only at hSw); go_simp; (try with_reducible rfl))
      (try simp only [Act.put, List.setIfInBounds_toArray, List.set_cons_zero, List.set_cons_succ])
      refine wpAnyS_pure 2 (v := ?_) (fun _ => trivial) (by simp only [List.getElem?_toArray, List.getElem?_cons_succ, List.getElem?_cons_zero]; rfl) (by kernel_rfl) (fun _ _ _ _ _ h => h) ⟨rfl, (by intro c h; cases h), ?_⟩ hHeld ?_
      rotate_left
      focus (intro wS hSw; (try replace hSw := HSF.out wS hSw); (try dsimp only at hSw); go_simp; (try with_reducible rfl))
      (try simp only [Act.put, List.setIfInBounds_toArray, List.set_cons_zero, List.set_cons_succ])
      refine wpAnyS_take 3 (v := ?_) (fun _ => trivial) (by simp only [List.getElem?_toArray, List.getElem?_cons_succ, List.getElem?_cons_zero]; rfl) (by kernel_rfl) (fun _ _ _ _ _ h => h) ⟨rfl, (by intro c h; cases h), ?_⟩ hHeld ?_
      rotate_left
      focus (intro wS hSw; (try replace hSw := HSF.out wS hSw); (try dsimp only at hSw); go_simp; (try with_reducible rfl))
      (try simp only [Act.put, List.setIfInBounds_toArray, List.set_cons_zero, List.set_cons_succ])
      refine wpAnyS_pure 4 (v := ?_) (fun _ => trivial) (by simp only [List.getElem?_toArray, List.getElem?_cons_succ, List.getElem?_cons_zero]; rfl) (by kernel_rfl) (fun _ _ _ _ _ h => h) ⟨rfl, (by intro c h; cases h), ?_⟩ hHeld ?_
      rotate_left
      focus (intro wS hSw; (try replace hSw := HSF.out wS hSw); (try dsimp only at hSw); go_simp; (try with_reducible rfl))
      (try simp only [Act.put, List.setIfInBounds_toArray, List.set_cons_zero, List.set_cons_succ])
      refine wpAnyS_take 5 (v := ?_) (fun _ => trivial) (by simp only [List.getElem?_toArray, List.getElem?_cons_succ, List.getElem?_cons_zero]; rfl) (by kernel_rfl) (fun _ _ _ _ _ h => h) ⟨rfl, (by intro c h; cases h), ?_⟩ hHeld ?_
      rotate_left
      focus (intro wS hSw; (try replace hSw := HSF.out wS hSw); (try dsimp only at hSw); go_simp; (try with_reducible rfl))
      (try simp only [Act.put, List.setIfInBounds_toArray, List.set_cons_zero, List.set_cons_succ])
      refine wpAnyS_take 6 (v := ?_) (fun _ => trivial) (by simp only [List.getElem?_toArray, List.getElem?_cons_succ, List.getElem?_cons_zero]; rfl) (by kernel_rfl) (fun _ _ _ _ _ h => h) ⟨rfl, (by intro c h; cases h), ?_⟩ hHeld ?_
      rotate_left
      focus (intro wS hSw; (try replace hSw := HSF.out wS hSw); (try dsimp only at hSw); go_simp; (try with_reducible rfl))
      (try simp only [Act.put, List.setIfInBounds_toArray, List.set_cons_zero, List.set_cons_succ])
      refine wpAnyS_pure 7 (v := ?_) (fun _ => trivial) (by simp only [List.getElem?_toArray, List.getElem?_cons_succ, List.getElem?_cons_zero]; rfl) (by kernel_rfl) (fun _ _ _ _ _ h => h) ⟨rfl, (by intro c h; cases h), ?_⟩ hHeld ?_
      rotate_left
      focus (intro wS hSw; (try replace hSw := HSF.out wS hSw); (try dsimp only at hSw); go_simp; (try with_reducible rfl))
      (try simp only [Act.put, List.setIfInBounds_toArray, List.set_cons_zero, List.set_cons_succ])
      refine wpAnyS_take 8 (v := ?_) (fun _ => trivial) (by simp only [List.getElem?_toArray, List.getElem?_cons_succ, List.getElem?_cons_zero]; rfl) (by kernel_rfl) (fun _ _ _ _ _ h => h) ⟨rfl, (by intro c h; cases h), ?_⟩ hHeld ?_
      rotate_left
      focus (intro wS hSw; (try replace hSw := HSF.out wS hSw); (try dsimp only at hSw); go_simp; (try with_reducible rfl))
      (try simp only [Act.put, List.setIfInBounds_toArray, List.set_cons_zero, List.set_cons_succ])
      refine wpAnyS_pure 9 (v := ?_) (fun _ => trivial) (by simp only [List.getElem?_toArray, List.getElem?_cons_succ, List.getElem?_cons_zero]; rfl) (by kernel_rfl) (fun _ _ _ _ _ h => h) ⟨rfl, (by intro c h; cases h), ?_⟩ hHeld ?_
      rotate_left
      focus (intro wS hSw; (try replace hSw := HSF.out wS hSw); (try dsimp only at hSw); go_simp; (try with_reducible rfl))
      (try simp only [Act.put, List.setIfInBounds_toArray, List.set_cons_zero, List.set_cons_succ])
      refine wpAnyS_ready [10] (by kernel_rfl) (by simp) (AllReadyS.cons (by simp only [List.getElem?_toArray, List.getElem?_cons_succ, List.getElem?_cons_zero]; rfl) rfl (fun K hK => ?_) AllReadyS.nil)
      go_simp
      have B6 := hid (BD.out.alloc BD.out.size (Obj.cells #[.string { data := #[] }, .string { data := #[] }] 81))
      have X6 := hid (Blk.new wd 81 #[.string { data := #[] }, .string { data := #[] }])
      refine hK.out _ _ B6.out ?_
      (try simp only [Act.put, List.setIfInBounds_toArray, List.set_cons_zero, List.set_cons_succ])
      clear hK K hHeld
      have hHeld := B6.out
      have hgx := hid BD.out.size
      have hgw := hid (Nat.le_trans HC5.out.size BD.out.size)
      generalize wd.heap.size = gx at *
      generalize (wd.alloc (Obj.cells #[.string { data := #[] }, .string { data := #[] }] 81)) = w6 at *
      have z0 := X6.out.cell 0; have z1 := X6.out.cell 1; have zl := X6.out.lt; have zf := X6.out.frozen
      simp at z0 z1
      have B7 := hid ((B6.out.setCell (p := ⟨gx, 0, none⟩) hgx.out (.string (bs y1))).setCell (p := ⟨gx, 1, none⟩) hgx.out (.string (bs y2)))
      have X7 := hid (show Blk ((w6.setCell ⟨gx, 0, none⟩ (.string (bs y1))).setCell ⟨gx, 1, none⟩ (.string (bs y2))) gx 81 #[.string (bs y1), .string (bs y2)] by simpa using (X6.out.set_ 0 (.string (bs y1))).set_ 1 (.string (bs y2)))
      refine wpAnyS_ready [11] (by kernel_rfl) (by simp) (AllReadyS.cons (by simp only [List.getElem?_toArray, List.getElem?_cons_succ, List.getElem?_cons_zero]; rfl) rfl (fun K hK => ?_) AllReadyS.nil)
      go_simp
      refine hK.out _ _ B7.out ?_
      (try simp only [Act.put, List.setIfInBounds_toArray, List.set_cons_zero, List.set_cons_succ])
      clear hK K hHeld
      have hHeld := B7.out
      refine wpAnyS_pure 12 (v := ?_) (fun _ => trivial) (by simp only [List.getElem?_toArray, List.getElem?_cons_succ, List.getElem?_cons_zero]; rfl) (by kernel_rfl) (fun _ _ _ _ _ h => h) ⟨rfl, (by intro c h; cases h), ?_⟩ hHeld ?_
      rotate_left
      focus (intro wS hSw; (try replace hSw := HSF.out wS hSw); (try dsimp only at hSw); go_simp; (try with_reducible rfl))
      (try simp only [Act.put, List.setIfInBounds_toArray, List.set_cons_zero, List.set_cons_succ])
      refine wpAnyS_done (by kernel_rfl) ?_
      clear hHeld HSF z0 z1 zl zf X6 B6 BD
      have H7 := hid (H5.out.below B7.out)
      have HC7 := hid (Chg.trans HC5.out (Chg.of_below B7.out (CB b L.mf)) (fun k _ h => h))
      have X57 := hid (X5.out.below B7.out X5.out.lt)
      have hgsx := hid (show gs ≠ gx from fun e => by have := X5.out.lt; have := hgx.out; omega)
      clear H5 HC5 X5 B7 hgx
      generalize ((w6.setCell ⟨gx, 0, none⟩ (.string (bs y1))).setCell ⟨gx, 1, none⟩ (.string (bs y2))) = w7 at *
      clear hwm
      go_upto_region 6 with fail
      have KP7 := hid (HKP.out.chg HC7.out)
      have f0 := X7.out.cell 0; have fl := X7.out.lt
      simp at f0
      have hsz1 := bs_size y1
      go_cut [60] (fun v wx => ∃ r : Bool, v = .bool r ∧ (r = false → p < y1.length) ∧ wx = w7)
      case first =>
        by_cases hz : kl.length = 0
        · obtain rfl : kl = [] := List.eq_nil_of_length_eq_zero hz
          go_wp2_with fail
          go_meet
          exact ⟨true, rfl, by simp, rfl⟩
        · have hk9 : k % kl.length < kl.length := Nat.mod_lt _ (by omega)
          obtain ⟨g2, off2, rfl, -, -, hg2, hc2⟩ := KP7.out (k % kl.length) hk9
          have hrem : IntKind.i64.wrap ((k : Int).tmod kl.length) = ((k % kl.length : Nat) : Int) := by
            rw [Int.tmod_eq_emod_of_nonneg (by omega)]
            exact (i64_in _ (by omega)).trans (by omega)
          have hzb : ((kl.length : Int) == 0) = false := by rw [beq_eq_false_iff_ne]; omega
          have hmI : ((k % kl.length : Nat) : Int) < kl.length := by omega
          generalize kl[k % kl.length] = kv at *
          go_wp2_with fail
          all_goals
            go_meet
            first
              | exact ⟨true, rfl, by simp, rfl⟩
              | exact ⟨_, rfl, fun h => by have := of_decide_eq_false h; omega, rfl⟩
              | exact ⟨_, rfl, fun h => by simp at h; omega, rfl⟩
      case rest =>
      obtain ⟨r, rfl, hr, rfl⟩ := hcut
      generalize wc = w7 at *
      have HR := hid hr
      clear hr f0 fl KP7
      cases r with
      | true =>
        go_wp2_with fail
        go_roundw
        case rel => exact ⟨k + 1, fl', by omega, by go_num, H7.out, HSr.out, HC7.out⟩
        case measure => simp [intOf]; omega
      | false =>
        go_upto_region 7 with fail
        have hpl := HR.out rfl
        have hyl : y1.length ≤ 16777216 := by have h1 := H7.out.ok.now x1; simp only at h1; rw [← HY.out] at h1; exact h1
        have hyl2 : y2.length ≤ 16777216 := by have h1 := H7.out.ok.le x1; simp only at h1; rw [← HY.out] at h1; simp only at h1; omega
        have HSF := hid (fun (wq : World) (hq : Below w7.heap.size w7 wq) => show wq.cell? ⟨gx, 0, none⟩ = some (.string (bs y1)) ∧ wq.cell? ⟨gx, 1, none⟩ = some (.string (bs y2)) ∧ gx < wq.heap.size from ⟨(X7.out.below hq X7.out.lt).cell 0, (X7.out.below hq X7.out.lt).cell 1, (X7.out.below hq X7.out.lt).lt⟩)
        have BD := hid ((Below.refl w7.heap.size w7).drew)
        refine wpIn_wide.1 (wpIn_region_S (n := 0) (fun wq => Below w7.heap.size w7 wq) [15] (by kernel_rfl) BD.out (fun hHeld => ?_))
        have X7d := hid X7.out.drew
        obtain ⟨p2, hp2⟩ : ∃ p2, p2 = p + 64 := ⟨_, rfl⟩
        have hw2 : IntKind.i64.wrap ((p : Int) + 64) = (p2 : Int) := (i64_in _ (by omega)).trans (by omega)
        obtain ⟨e, he⟩ : ∃ e, e = min p2 y1.length := ⟨_, rfl⟩
        have hmn : min (p2 : Int) (y1.length : Int) = (e : Int) := by omega
        have hpe : p ≤ e := by omega
        have hel : e ≤ y1.length := by omega
        have hpeI : (p : Int) ≤ e := by omega
        have helI : (e : Int) ≤ y1.length := by omega
        have HE := hid (And.intro he hp2)
        clear he hp2
        generalize w7.drew = wd at *
        refine wpAnyS_pure 0 (v := ?_) (fun _ => trivial) (by simp only [List.getElem?_toArray, List.getElem?_cons_succ, List.getElem?_cons_zero]; rfl) (by kernel_rfl) (fun _ _ _ _ _ h => h) ⟨rfl, (by intro c h; cases h), ?_⟩ hHeld ?_
        rotate_left
        focus (intro wS hSw; (try replace hSw := HSF.out wS hSw); (try dsimp only at hSw); go_simp; (try with_reducible rfl))
        (try simp only [Act.put, List.setIfInBounds_toArray, List.set_cons_zero, List.set_cons_succ])
        refine wpAnyS_take 1 (v := ?_) (fun _ => trivial) (by simp only [List.getElem?_toArray, List.getElem?_cons_succ, List.getElem?_cons_zero]; rfl) (by kernel_rfl) (fun _ _ _ _ _ h => h) ⟨rfl, (by intro c h; cases h), ?_⟩ hHeld ?_
        rotate_left
        focus (intro wS hSw; (try replace hSw := HSF.out wS hSw); (try dsimp only at hSw); go_simp; (try with_reducible rfl))
        (try simp only [Act.put, List.setIfInBounds_toArray, List.set_cons_zero, List.set_cons_succ])
        refine wpAnyS_pure 2 (v := ?_) (fun _ => trivial) (by simp only [List.getElem?_toArray, List.getElem?_cons_succ, List.getElem?_cons_zero]; rfl) (by kernel_rfl) (fun _ _ _ _ _ h => h) ⟨rfl, (by intro c h; cases h), ?_⟩ hHeld ?_
        rotate_left
        focus (intro wS hSw; (try replace hSw := HSF.out wS hSw); (try dsimp only at hSw); go_simp; (try with_reducible rfl))
        (try simp only [Act.put, List.setIfInBounds_toArray, List.set_cons_zero, List.set_cons_succ])
        refine wpAnyS_pure 3 (v := ?_) (fun _ => trivial) (by simp only [List.getElem?_toArray, List.getElem?_cons_succ, List.getElem?_cons_zero]; rfl) (by kernel_rfl) (fun _ _ _ _ _ h => h) ⟨rfl, (by intro c h; cases h), ?_⟩ hHeld ?_
        rotate_left
        focus (intro wS hSw; (try replace hSw := HSF.out wS hSw); (try dsimp only at hSw); go_simp; (try with_reducible rfl))
        (try simp only [Act.put, List.setIfInBounds_toArray, List.set_cons_zero, List.set_cons_succ])
        refine wpAnyS_take 4 (v := ?_) (fun _ => trivial) (by simp only [List.getElem?_toArray, List.getElem?_cons_succ, List.getElem?_cons_zero]; rfl) (by kernel_rfl) (fun _ _ _ _ _ h => h) ⟨rfl, (by intro c h; cases h), ?_⟩ hHeld ?_
        rotate_left
        focus (intro wS hSw; (try replace hSw := HSF.out wS hSw); (try dsimp only at hSw); go_simp; (try with_reducible rfl))
        (try simp only [Act.put, List.setIfInBounds_toArray, List.set_cons_zero, List.set_cons_succ])
        refine wpAnyS_pure 5 (v := ?_) (fun _ => trivial) (by simp only [List.getElem?_toArray, List.getElem?_cons_succ, List.getElem?_cons_zero]; rfl) (by kernel_rfl) (fun _ _ _ _ _ h => h) ⟨rfl, (by intro c h; cases h), ?_⟩ hHeld ?_
        rotate_left
        focus (intro wS hSw; (try replace hSw := HSF.out wS hSw); (try dsimp only at hSw); go_simp; (try with_reducible rfl))
        (try simp only [Act.put, List.setIfInBounds_toArray, List.set_cons_zero, List.set_cons_succ])
        refine wpAnyS_pure 6 (v := ?_) (fun _ => trivial) (by simp only [List.getElem?_toArray, List.getElem?_cons_succ, List.getElem?_cons_zero]; rfl) (by kernel_rfl) (fun _ _ _ _ _ h => h) ⟨rfl, (by intro c h; cases h), ?_⟩ hHeld ?_
        rotate_left
        focus (intro wS hSw; (try replace hSw := HSF.out wS hSw); (try dsimp only at hSw); go_simp; (try with_reducible rfl))
        (try simp only [Act.put, List.setIfInBounds_toArray, List.set_cons_zero, List.set_cons_succ])
        refine wpAnyS_pure 7 (v := ?_) (fun _ => trivial) (by simp only [List.getElem?_toArray, List.getElem?_cons_succ, List.getElem?_cons_zero]; rfl) (by kernel_rfl) (fun _ _ _ _ _ h => h) ⟨rfl, (by intro c h; cases h), ?_⟩ hHeld ?_
        rotate_left
        focus (intro wS hSw; (try replace hSw := HSF.out wS hSw); (try dsimp only at hSw); go_simp; (try with_reducible rfl))
        (try simp only [Act.put, List.setIfInBounds_toArray, List.set_cons_zero, List.set_cons_succ])
        refine wpAnyS_pure 8 (v := ?_) (fun _ => trivial) (by simp only [List.getElem?_toArray, List.getElem?_cons_succ, List.getElem?_cons_zero]; rfl) (by kernel_rfl) (fun _ _ _ _ _ h => h) ⟨rfl, (by intro c h; cases h), ?_⟩ hHeld ?_
        rotate_left
        focus (intro wS hSw; (try replace hSw := HSF.out wS hSw); (try dsimp only at hSw); go_simp; (try with_reducible rfl))
        (try simp only [Act.put, List.setIfInBounds_toArray, List.set_cons_zero, List.set_cons_succ])
        refine wpAnyS_take 9 (v := ?_) (fun _ => trivial) (by simp only [List.getElem?_toArray, List.getElem?_cons_succ, List.getElem?_cons_zero]; rfl) (by kernel_rfl) (fun _ _ _ _ _ h => h) ⟨rfl, (by intro c h; cases h), ?_⟩ hHeld ?_
        rotate_left
        focus (intro wS hSw; (try replace hSw := HSF.out wS hSw); (try dsimp only at hSw); go_simp; (try with_reducible rfl))
        (try simp only [Act.put, List.setIfInBounds_toArray, List.set_cons_zero, List.set_cons_succ])
        refine wpAnyS_pure 10 (v := ?_) (fun _ => trivial) (by simp only [List.getElem?_toArray, List.getElem?_cons_succ, List.getElem?_cons_zero]; rfl) (by kernel_rfl) (fun _ _ _ _ _ h => h) ⟨rfl, (by intro c h; cases h), ?_⟩ hHeld ?_
        rotate_left
        focus (intro wS hSw; (try replace hSw := HSF.out wS hSw); (try dsimp only at hSw); go_simp; (try with_reducible rfl))
        (try simp only [Act.put, List.setIfInBounds_toArray, List.set_cons_zero, List.set_cons_succ])
        refine wpAnyS_pure 11 (v := ?_) (fun _ => trivial) (by simp only [List.getElem?_toArray, List.getElem?_cons_succ, List.getElem?_cons_zero]; rfl) (by kernel_rfl) (fun _ _ _ _ _ h => h) ⟨rfl, (by intro c h; cases h), ?_⟩ hHeld ?_
        rotate_left
        focus (intro wS hSw; (try replace hSw := HSF.out wS hSw); (try dsimp only at hSw); go_simp; (try with_reducible rfl))
        (try simp only [Act.put, List.setIfInBounds_toArray, List.set_cons_zero, List.set_cons_succ])
        refine wpAnyS_pure 12 (v := ?_) (fun _ => trivial) (by simp only [List.getElem?_toArray, List.getElem?_cons_succ, List.getElem?_cons_zero]; rfl) (by kernel_rfl) (fun _ _ _ _ _ h => h) ⟨rfl, (by intro c h; cases h), ?_⟩ hHeld ?_
        rotate_left
        focus (intro wS hSw; (try replace hSw := HSF.out wS hSw); (try dsimp only at hSw); go_simp; (try with_reducible rfl))
        (try simp only [Act.put, List.setIfInBounds_toArray, List.set_cons_zero, List.set_cons_succ])
        have hex : (bs y1).extract p e = bs ((y1.drop p).take 64) := by
          rw [bs_extract]
          congr 1
          have h1 := HE.out.1
          have h2 := HE.out.2
          rw [List.drop_take]
          by_cases h : p2 ≤ y1.length
          · rw [show e - p = 64 by omega]
          · rw [List.take_of_length_le (by rw [List.length_drop]; omega), List.take_of_length_le (by rw [List.length_drop]; omega)]
        rw [hex]
        have HPU := hid (put_any y2 ((y1.drop p).take 64) p wd (by omega) (by rw [List.length_take]; omega) (by omega))
        clear hex
        have HSS := hid (HSr.out.step x1 m)
        rw [← HP.out, ← HY.out] at HSS
        simp only at HSS
        generalize (y1.drop p).take 64 = tt at *
        refine wpAnyS_ready [13] (by kernel_rfl) (by simp) (AllReadyS.consG (by simp only [List.getElem?_toArray, List.getElem?_cons_succ, List.getElem?_cons_zero]; rfl) (by rfl) (fun K hK => ?_) AllReadyS.nil)
        refine callS (by intro c h; cases h) (by go_simp; try with_reducible rfl) (HPU.out) ?_
        intro we hBq
        have Be := hid (BD.out.trans (hBq.mono BD.out.size))
        refine hK.out _ _ Be.out ?_
        (try simp only [Act.put, List.setIfInBounds_toArray, List.set_cons_zero, List.set_cons_succ])
        clear hK K hBq
        clear hHeld
        have hHeld := Be.out
        have Xe := hid (X7.out.below Be.out X7.out.lt)
        have xe1 := Xe.out.cell 1; have xel := Xe.out.lt; have xef := Xe.out.frozen 1
        simp at xe1
        obtain ⟨yn, hyn⟩ : ∃ yn, yn = putL y2 p tt := ⟨_, rfl⟩
        rw [← hyn] at HSS ⊢
        clear hyn HPU
        refine wpAnyS_pure 14 (v := ?_) (fun _ => trivial) (by simp only [List.getElem?_toArray, List.getElem?_cons_succ, List.getElem?_cons_zero]; rfl) (by kernel_rfl) (fun _ _ _ _ _ h => h) ⟨rfl, (by intro c h; cases h), ?_⟩ hHeld ?_
        rotate_left
        focus (intro wS hSw; (try replace hSw := HSF.out wS hSw); (try dsimp only at hSw); go_simp; (try with_reducible rfl))
        (try simp only [Act.put, List.setIfInBounds_toArray, List.set_cons_zero, List.set_cons_succ])
        have G8 := hid (gr_set we gx 1 (.string (bs yn)))
        have He := hid (H7.out.below Be.out)
        have H8 := hid (He.out.chg (Chg.of_grown G8.out (S := fun k => k = gx) (fun k e => by injection e)) (He.out.ne_blk Xe.out (by decide) (by decide) (by decide)))
        have HC8 := hid (Chg.trans (Chg.trans HC7.out (Chg.of_below Be.out (CB b L.mf)) (fun k _ h => h)) (Chg.of_grown G8.out (S := fun k => k = gx) (fun k e => by injection e)) (fun k hk e => by have := hgw.out; omega))
        have X58 := hid (((X57.out.below Be.out X57.out.lt).grown G8.out (fun e => hgsx.out (by injection e))))
        have X8 := hid (show Blk (we.setCell ⟨gx, 1, none⟩ (.string (bs yn))) gx 81 #[.string (bs y1), .string (bs yn)] by simpa using Xe.out.set_ 1 (.string (bs yn)))
        refine wpAnyS_ready [15] (by kernel_rfl) (by simp) (AllReadyS.consL (by simp only [List.getElem?_toArray, List.getElem?_cons_succ, List.getElem?_cons_zero]; rfl) rfl (by kernel_rfl) (fun K hK => ?_) AllReadyS.nil)
        go_simp
        refine hK.out _ _ ?_
        (try simp only [Act.put, List.setIfInBounds_toArray, List.set_cons_zero, List.set_cons_succ])
        clear hK K hHeld HSF xe1 xel xef
        refine wpAnyS_done (by kernel_rfl) ?_
        clear G8 He Xe Be X7d BD X57 H7 HC7 X7 hw2 hmn
        generalize (we.setCell ⟨gx, 1, none⟩ (.string (bs yn))) = w8 at *
        go_upto_region 8 with fail
        have hne := hid (show fl' x1 ≠ ([], []) from fun e => by have h1 := HY.out; rw [e] at h1; injection h1 with h1 _; rw [h1] at hpl; simp at hpl)
        have H8d := hid (H8.out.below (Below.refl _ w8).drew)
        have HSF := hid (fun (wq : World) (hq : wq = w8.drew) => show wq.cell? ⟨b, 0, none⟩ = some (.map (some L.mf)) ∧ wq.cell? ⟨gs, 0, none⟩ = some (.int .i64 x1) ∧ wq.cell? ⟨gx, 0, none⟩ = some (.string (bs y1)) ∧ wq.cell? ⟨gx, 1, none⟩ = some (.string (bs yn)) from by rw [hq]; exact ⟨H8d.out.cells.1, X58.out.cell 0, X8.out.cell 0, X8.out.cell 1⟩)
        refine wpIn_wide.1 (wpIn_region_S (n := 0) (fun wq => wq = w8.drew) [7] (by kernel_rfl) rfl (fun hHeld => ?_))
        obtain ⟨w9, r1, r2, r3⟩ := H8d.out.f.put_there hi1 (by unfold maxLen; omega) hne.out (y1, yn)
        unfold csF at r1
        simp only at r1
        have R2 := hid r2
        have R3 := hid r3
        have HCd := hid (Chg.trans HC8.out (Chg.of_below (Below.refl _ w8).drew (CB b L.mf)) (fun k _ h => h))
        clear r2 r3
        generalize w8.drew = wd9 at *
        refine wpAnyS_pure 0 (v := ?_) (fun _ => trivial) (by simp only [List.getElem?_toArray, List.getElem?_cons_succ, List.getElem?_cons_zero]; rfl) (by kernel_rfl) (fun _ _ _ _ _ h => h) ⟨rfl, (by intro c h; cases h), ?_⟩ hHeld ?_
        rotate_left
        focus (intro wS hSw; (try replace hSw := HSF.out wS hSw); (try dsimp only at hSw); go_simp; (try with_reducible rfl))
        (try simp only [Act.put, List.setIfInBounds_toArray, List.set_cons_zero, List.set_cons_succ])
        refine wpAnyS_pure 1 (v := ?_) (fun _ => trivial) (by simp only [List.getElem?_toArray, List.getElem?_cons_succ, List.getElem?_cons_zero]; rfl) (by kernel_rfl) (fun _ _ _ _ _ h => h) ⟨rfl, (by intro c h; cases h), ?_⟩ hHeld ?_
        rotate_left
        focus (intro wS hSw; (try replace hSw := HSF.out wS hSw); (try dsimp only at hSw); go_simp; (try with_reducible rfl))
        (try simp only [Act.put, List.setIfInBounds_toArray, List.set_cons_zero, List.set_cons_succ])
        refine wpAnyS_pure 2 (v := ?_) (fun _ => trivial) (by simp only [List.getElem?_toArray, List.getElem?_cons_succ, List.getElem?_cons_zero]; rfl) (by kernel_rfl) (fun _ _ _ _ _ h => h) ⟨rfl, (by intro c h; cases h), ?_⟩ hHeld ?_
        rotate_left
        focus (intro wS hSw; (try replace hSw := HSF.out wS hSw); (try dsimp only at hSw); go_simp; (try with_reducible rfl))
        (try simp only [Act.put, List.setIfInBounds_toArray, List.set_cons_zero, List.set_cons_succ])
        refine wpAnyS_take 3 (v := ?_) (fun _ => trivial) (by simp only [List.getElem?_toArray, List.getElem?_cons_succ, List.getElem?_cons_zero]; rfl) (by kernel_rfl) (fun _ _ _ _ _ h => h) ⟨rfl, (by intro c h; cases h), ?_⟩ hHeld ?_
        rotate_left
        focus (intro wS hSw; (try replace hSw := HSF.out wS hSw); (try dsimp only at hSw); go_simp; (try with_reducible rfl))
        (try simp only [Act.put, List.setIfInBounds_toArray, List.set_cons_zero, List.set_cons_succ])
        refine wpAnyS_pure 4 (v := ?_) (fun _ => trivial) (by simp only [List.getElem?_toArray, List.getElem?_cons_succ, List.getElem?_cons_zero]; rfl) (by kernel_rfl) (fun _ _ _ _ _ h => h) ⟨rfl, (by intro c h; cases h), ?_⟩ hHeld ?_
        rotate_left
        focus (intro wS hSw; (try replace hSw := HSF.out wS hSw); (try dsimp only at hSw); go_simp; (try with_reducible rfl))
        (try simp only [Act.put, List.setIfInBounds_toArray, List.set_cons_zero, List.set_cons_succ])
        refine wpAnyS_take 5 (v := ?_) (fun _ => trivial) (by simp only [List.getElem?_toArray, List.getElem?_cons_succ, List.getElem?_cons_zero]; rfl) (by kernel_rfl) (fun _ _ _ _ _ h => h) ⟨rfl, (by intro c h; cases h), ?_⟩ hHeld ?_
        rotate_left
        focus (intro wS hSw; (try replace hSw := HSF.out wS hSw); (try dsimp only at hSw); go_simp; (try with_reducible rfl))
        (try simp only [Act.put, List.setIfInBounds_toArray, List.set_cons_zero, List.set_cons_succ])
        refine wpAnyS_take 6 (v := ?_) (fun _ => trivial) (by simp only [List.getElem?_toArray, List.getElem?_cons_succ, List.getElem?_cons_zero]; rfl) (by kernel_rfl) (fun _ _ _ _ _ h => h) ⟨rfl, (by intro c h; cases h), ?_⟩ hHeld ?_
        rotate_left
        focus (intro wS hSw; (try replace hSw := HSF.out wS hSw); (try dsimp only at hSw); go_simp; (try with_reducible rfl))
        (try simp only [Act.put, List.setIfInBounds_toArray, List.set_cons_zero, List.set_cons_succ])
        refine wpAnyS_ready [7] (by kernel_rfl) (by simp) (AllReadyS.consL (by simp only [List.getElem?_toArray, List.getElem?_cons_succ, List.getElem?_cons_zero]; rfl) rfl (by kernel_rfl) (fun K hK => ?_) AllReadyS.nil)
        go_simp
        refine hK.out _ _ ?_
        (try simp only [Act.put, List.setIfInBounds_toArray, List.set_cons_zero, List.set_cons_succ])
        clear hK K hHeld HSF r1
        refine wpAnyS_done (by kernel_rfl) ?_
        have H9 := hid (H8d.out.files R2.out R3.out (Nat.le_refl _) (HSS.out.ok HOK.out true))
        have HC9 := hid (Chg.trans HCd.out (Chg.of_grown R3.out (S := CB b L.mf) (fun k e => .inr (by injection e))) (fun k _ h => h))
        go_wp2_with fail
        go_roundw
        case rel => exact ⟨k + 1, _, by omega, by go_num, H9.out.1, HSS.out, HC9.out⟩
        case measure => simp [intOf]; omega
end Go.Proofs.YtbefmjodpndndaaDoor
