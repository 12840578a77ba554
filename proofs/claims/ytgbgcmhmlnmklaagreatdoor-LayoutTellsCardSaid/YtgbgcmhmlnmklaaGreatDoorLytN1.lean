
/- Layouts, the reference: Read. -/
import Derived.Test.YtgbgcmhmlnmklaaGreatDoorLytN0
import Derived.Test.YtgbgcmhmlnmklaaGreatDoorLayR
import Derived.Test.YtgbgcmhmlnmklaaGreatDoorWireUr
import Derived.Test.YtgbgcmhmlnmklaaGreatDoorLayS
import Derived.Deep.RegionWith
set_option linter.unusedSimpArgs false
set_option linter.unusedVariables false
namespace Go.Proofs.YtgbgcmhmlnmklaaGreatDoor
open Go.RowKit Go.IntWalk
set_option maxRecDepth 100000 in
set_option maxHeartbeats 1000000 in
theorem rlbytes_any (A : Option Addr) (c : Nat) (l : List Bool) (t : Int) (w : World) (hl : l.length ≤ 24) (hs : SlR w w.heap.size A l) (ht : I64 t) :
    Calls Tryz.prog 22 #[.agg #[.slice A l.length c, .int .i64 t]] w fun e w' => e = .returned (.string (bs (encLay l t))) ∧ Below w.heap.size w w' := by
  have li : ∀ n : Int, I64 n → (encI n).length ≤ 22 := by
    intro n hn
    have := Lib.itoa_length_le n hn.1 hn.2
    simp [encI]; omega
  have hen := encLay_len l t hl ht
  have hI : I64 (l.length : Int) := ⟨by omega, by omega⟩
  have hs1 : (bs (encI l.length)).size ≤ 22 := by rw [bs_size]; exact li _ hI
  have hs2 : (bs (encI t)).size ≤ 22 := by rw [bs_size]; exact li t ht
  have hs3 : (bs (encL ((idx l).map encI))).size ≤ 1000 := by
    rw [bs_size]; unfold encLay at hen; simp only [List.length_append] at hen; omega
  have hs4 : (bs (encI l.length) ++ bs (encL ((idx l).map encI))).size ≤ 1022 := by
    rw [bs_app, bs_size]; unfold encLay at hen; simp only [List.length_append] at hen ⊢; omega
  have hfl : ((idx l).map encI).flatten.length ≤ 1000000000000 := by
    unfold encLay encL at hen; simp only [List.length_append] at hen; omega
  have hil := hid (idx_len l)
  have him := hid (idx_mem l)
  clear hen li
  have hb0 : Below w.heap.size w (w.alloc (Obj.cells #[.slice A l.length c, .int .i64 t] 27)) := by (repeat (first | exact Below.refl _ _ | assumption | refine below_drewN ?_ _ | refine Below.drew ?_ | refine Below.alloc ?_ (by (try simp); (try omega)) _ | refine Below.setCell ?_ (by (try simp); (try omega)) _))
  have b0 := hid (Blk.new w 27 #[.slice A l.length c, .int .i64 t])
  go_enter Tryz.func22, Tryz.ntmps22
  go_wp2_with fail
  go_loopw [3, 4] (fun v i wr => ∃ k : Nat, k ≤ l.length ∧ i = .int .i64 k ∧ OwnI wr (w.heap.size + 1) v (idx (l.take k)) ∧ Below w.heap.size w wr ∧ Blk wr w.heap.size 27 #[.slice A l.length c, .int .i64 t]) (fun _ i _ => l.length - (intOf i).toNat)
  case atStart => exact ⟨0, by omega, rfl, by simpa [idx] using OwnI.nil _ _, hb0, b0.out⟩
  case round =>
    clear hb0 b0
    obtain ⟨k, hk, rfl, hown, hB, hbx⟩ := hrel
    have hzb := hbx.lt
    have y0 := hbx.cell 0
    simp at y0
    by_cases hlt : k < l.length
    · obtain ⟨b, off, rfl, _, g1⟩ := (hs.below hB).bool hlt
      have hsn := hid (idx_snoc l k hlt)
      have hlt' : (k : Int) < l.length := by omega
      have hlen : (idx (l.take k)).length ≤ 24 := by have := idx_len (l.take k); have := List.length_take_le k l; omega
      generalize l[k] = x at *
      have hsz := hB.size
      have Hbx := hid hbx
      clear hbx
      cases x with
      | true =>
        go_wp2_with (at_builtin; refine wp_appI _ rfl (.tmp 17) (.tmp 19) rfl (w.heap.size + 1) _ _ rfl (hown.alloc _) _ _ [(k : Int)] rfl (cell1_newK _ _) (by simp at hlen ⊢; omega) (by simp; omega) ?_; intro v1 w5 ho1 hg5 hat1)
        have hB5 : Below w.heap.size w w5 := (hB.alloc hB.size _).grown hg5 (hB.alloc hB.size _).size (fun k hk => by have := hown.row k hk; omega)
        have hbx5 : Blk w5 w.heap.size 27 #[.slice (some ⟨b, off, none⟩) l.length c, .int .i64 t] := Blk.grown (Hbx.out.alloc _) hg5 (fun e => by have := hown.row _ e.symm; omega)
        go_wp2_with fail
        go_roundw
        case rel => exact ⟨k + 1, by omega, by go_num, by rw [hsn.out]; exact ho1, hB5, hbx5⟩
        case measure => simp [intOf]; omega
      | false =>
        go_wp2_with fail
        go_roundw
        case rel => exact ⟨k + 1, by omega, by go_num, by rw [hsn.out]; simpa using hown, hB, Hbx.out⟩
        case measure => simp [intOf]; omega
    · obtain rfl : k = l.length := by omega
      rw [List.take_length] at hown
      obtain ⟨A', c', rfl, _, _, hsl⟩ := hown.slr (fun x hx => by have := him.out x hx; exact ⟨by omega, by omega⟩)
      clear y0
      have x0 := hbx.cell 0; have x1 := hbx.cell 1
      simp at x0 x1
      have hz := hbx.lt
      clear hown hbx
      go_upto_region 7 with fail
      have hx := fun x : Ext (GB wr) => GB.cell x
      have ca : Hid (∀ x : Ext (GB wr), Calls Tryz.prog 46 #[.int .i64 l.length] x.w fun e w'' => e = .returned (.string (bs (encI l.length))) ∧ ∃ y : Ext (GB wr), w'' = y.w) := hid fun x => by
        have := GB.call (rNum_any l.length hI x.w)
        rw [if_neg (by omega)] at this
        exact this
      have cb := hid fun x : Ext (GB wr) => GB.call (rNums_any A' c' (idx l) x.w hfl (by have := hil.out; omega) ((hsl.below x.h.out).more x.h.out.size))
      have cc := hid fun x : Ext (GB wr) => GB.call (rInt_any t ht x.w)
      clear hfl
      refine wp_region_ext (GB wr) (by kernel_rfl) (by kernel_rfl) (GB.refl _) ?_
      repeat (go_big_quiet_step (first | exact ca.out _ | exact cb.out _ | exact cc.out _))
      refine wpQuiet_nil ?_
      intro w3 hG
      clear hx ca cb cc
      go_wp2_with fail
      go_ret
      exact ⟨ret_str (by rw [bs_app, bs_app]; rfl), hB.trans (hG.out.mono hB.size)⟩
end Go.Proofs.YtgbgcmhmlnmklaaGreatDoor
namespace Go.Proofs.YtgbgcmhmlnmklaaGreatDoor
open Go.RowKit Go.IntWalk

theorem nums_ur (l : List UInt8) (bad : Bool) (hl : l.length ≤ 1000000000000) (hbad : bad = true → l = []) : ∃ (xs : List Int) (l' : List UInt8) (bad' : Bool), (∀ x ∈ xs, I64 x) ∧ xs.length ≤ l.length ∧ l'.length ≤ l.length ∧
    (∀ (b : Nat) (W : World), Rr W b l bad → Calls Tryz.prog 38 #[.pointer (some ⟨b, 0, none⟩)] W fun e w' => ∃ A c, e = .returned (.slice A xs.length c) ∧ xs.length ≤ c ∧ c ≤ maxLen ∧ OwnI w' W.heap.size (.slice A xs.length c) xs ∧ SlR w' w'.heap.size A xs ∧ Rr w' b l' bad' ∧ W.grownBy w' (some b)) ∧
    ((listL fI l = some (xs, l') ∧ bad' = bad) ∨ (listL fI l = none ∧ xs = [] ∧ l' = [] ∧ bad' = true)) := by
  cases hr : listL fI l with
  | none =>
    refine ⟨[], [], true, by simp, by simp, by simp, fun b W h => ?_, .inr ⟨rfl, rfl, rfl, rfl⟩⟩
    have := numsRr_any b l bad W h hbad hl
    rw [hr] at this
    refine this.mono ?_
    rintro e w' ⟨rfl, h1, h2⟩
    exact ⟨none, 0, rfl, by simp, by simp [maxLen], OwnI.nil _ _, SlR.nil, h1, h2⟩
  | some x =>
    obtain ⟨xs, l'⟩ := x
    have hbd := listI_bd hr
    have hb0 : bad = false := by
      cases bad with
      | false => rfl
      | true => rw [hbad rfl] at hr; simp [listL, numL, Lib.indexByte] at hr
    subst hb0
    refine ⟨xs, l', false, hbd.1, listI_len hr, hbd.2, fun b W h => ?_, .inl ⟨rfl, rfl⟩⟩
    have := numsRr_any b l false W h hbad hl
    rw [hr] at this
    refine this.mono ?_
    rintro e w' ⟨v, rfl, ho, h1, h2⟩
    obtain ⟨A, c, rfl, h3, h4, h5⟩ := ho.slr hbd.1
    exact ⟨A, c, rfl, h3, h4, ho, h5, h1, h2⟩
/-! ### Ascending lists of cells -/
/-- In order, each of them below n. -/
def AscR (n : Nat) (xs : List Int) : Prop := (∀ x ∈ xs, 0 ≤ x ∧ x < n) ∧ xs.Pairwise (· < ·)
theorem AscR.toR {n : Nat} {xs : List Int} (h : AscR n xs) : inR n xs = true := by
  unfold inR
  rw [List.all_eq_true]
  intro x hx
  simpa using h.1 x hx
theorem AscR.nil (n : Nat) : AscR n [] := ⟨by simp, by simp⟩
theorem AscR.take {n : Nat} {xs : List Int} (h : AscR n xs) (k : Nat) : AscR n (xs.take k) := ⟨fun x hx => h.1 x (List.mem_of_mem_take hx), h.2.sublist (List.take_sublist _ _)⟩
/-- One more of them: the last one was less. -/
theorem AscR.snoc {n : Nat} {xs : List Int} {k : Nat} (h : AscR n (xs.take k)) (hk : k < xs.length) (h2 : 0 ≤ xs[k] ∧ xs[k] < n) (h3 : ∀ _ : 0 < k, xs[k - 1] < xs[k]) : AscR n (xs.take (k + 1)) := by
  rw [List.take_add_one, List.getElem?_eq_getElem hk]
  refine ⟨fun x hx => ?_, ?_⟩
  · rcases List.mem_append.1 hx with hx | hx
    · exact h.1 x hx
    · simp at hx; subst hx; exact h2
  · rw [List.pairwise_append]
    refine ⟨h.2, by simp, fun a ha b hb => ?_⟩
    simp at hb
    subst hb
    obtain ⟨i, hi, rfl⟩ := List.getElem_of_mem ha
    rw [List.length_take] at hi
    have hik : i < k := by omega
    have h4 := h3 (by omega)
    rw [List.getElem_take]
    by_cases he : i = k - 1
    · subst he; exact h4
    · have := List.pairwise_iff_getElem.1 h.2 i (k - 1) (by rw [List.length_take]; omega) (by rw [List.length_take]; omega) (by omega)
      rw [List.getElem_take, List.getElem_take] at this
      exact Int.lt_trans this h4
theorem AscR.not_rng {n : Nat} {xs : List Int} {k : Nat} (hk : k < xs.length) (h2 : ¬ (0 ≤ xs[k] ∧ xs[k] < n)) : ¬ AscR n xs := fun h => h2 (h.1 _ (List.getElem_mem hk))
theorem AscR.not_lt {n : Nat} {xs : List Int} {k : Nat} (hk : k < xs.length) (h0 : 0 < k) (h2 : ¬ xs[k - 1] < xs[k]) : ¬ AscR n xs := fun h => h2 (List.pairwise_iff_getElem.1 h.2 (k - 1) k (by omega) hk (by omega))
theorem idx_asc (l : List Bool) : AscR l.length (idx l) := by
  refine ⟨idx_mem l, ?_⟩
  unfold idx
  rw [List.pairwise_map]
  exact (List.pairwise_lt_range.filter _).imp (fun h => by simpa using h)
theorem idx_iff (l : List Bool) (x : Int) : x ∈ idx l ↔ ∃ i : Nat, x = i ∧ ∃ h : i < l.length, l[i] = true := by
  unfold idx
  rw [List.mem_map]
  constructor
  · rintro ⟨i, hi, rfl⟩
    obtain ⟨h1, h2⟩ := List.mem_filter.1 hi
    have h3 := List.mem_range.1 h1
    refine ⟨i, rfl, h3, ?_⟩
    simpa [List.getD, List.getElem?_eq_getElem h3] using h2
  · rintro ⟨i, rfl, h3, h2⟩
    refine ⟨i, List.mem_filter.2 ⟨List.mem_range.2 h3, ?_⟩, rfl⟩
    simp [List.getD, List.getElem?_eq_getElem h3, h2]
theorem foldl_set_get (xs : List Int) : ∀ (f : List Bool) (i : Nat) (h : i < (xs.foldl (fun f i => f.set i.toNat true) f).length) (h0 : i < f.length), (xs.foldl (fun f i => f.set i.toNat true) f)[i] = (f[i] || decide (∃ x ∈ xs, x.toNat = i)) := by
  induction xs with
  | nil => intro f i h h0; simp
  | cons x xs ih =>
    intro f i h h0
    simp only [List.foldl_cons]
    rw [ih (f.set x.toNat true) i (by simpa using h) (by simpa using h0), List.getElem_set]
    by_cases hx : x.toNat = i
    · simp [hx]
    · simp [hx]
theorem fullOf_get (n : Nat) (xs : List Int) (i : Nat) (h : i < (fullOf n xs).length) : (fullOf n xs)[i] = decide (∃ x ∈ xs, x.toNat = i) := by
  unfold fullOf at h ⊢
  have h0 : i < n := by have := fullOf_len n xs; unfold fullOf at this; omega
  rw [foldl_set_get xs _ i h (by simpa using h0)]
  simp
theorem idx_fullOf {n : Nat} {xs : List Int} (h : AscR n xs) : idx (fullOf n xs) = xs := by
  have hn := fullOf_len n xs
  have ha := idx_asc (fullOf n xs)
  have hm : ∀ x, x ∈ idx (fullOf n xs) ↔ x ∈ xs := by
    intro x
    rw [idx_iff]
    constructor
    · rintro ⟨i, rfl, hi, h1⟩
      rw [fullOf_get] at h1
      obtain ⟨y, hy, e⟩ := of_decide_eq_true h1
      have := h.1 y hy
      have e2 : y = (i : Int) := by omega
      exact e2 ▸ hy
    · intro hx
      have := h.1 x hx
      refine ⟨x.toNat, by omega, by rw [hn]; omega, ?_⟩
      rw [fullOf_get]
      exact decide_eq_true ⟨x, hx, rfl⟩
  refine List.Perm.eq_of_pairwise (fun _ _ _ _ h1 h2 => absurd h2 (by omega)) ha.2 h.2 ?_
  exact (List.perm_ext_iff_of_nodup (ha.2.imp (fun h => by omega)) (h.2.imp (fun h => by omega))).2 hm
/-- The reference reads what the program reads. -/
theorem readLay_ref {s : List UInt8} {bad3 : Bool} {n : Nat} {xs : List Int} {t : Int} {s3 : List UInt8} (hI : I64 t) (hT : readT s = if bad3 = true then none else some ((n : Int), xs, t, s3)) :
    (bad3 = true ∨ s3 ≠ [] ∨ n < 1 ∨ 24 < n ∨ ¬ AscR n xs ∨ rightL (fullOf n xs) t = false → readLay s = none) ∧ (bad3 = false → s3 = [] → 1 ≤ n → n ≤ 24 → AscR n xs → rightL (fullOf n xs) t = true → readLay s = some (fullOf n xs, t)) := by
  have H := readLay_of hT rfl
  refine ⟨fun h => ?_, fun h1 h2 h3 h4 h5 h6 => ?_⟩
  · cases hr : readLay s with
    | none => rfl
    | some p =>
      exfalso
      obtain ⟨f, t'⟩ := p
      have hs := readLay_some hr
      have hf := (rightL_iff f t').1 hs.1
      have ht' : I64 t' := by
        have := hf
        exact ⟨by omega, by omega⟩
      have h1 := readT_enc f t' hf.2.1 ht'
      rw [hs.2, hT] at h1
      cases bad3 with
      | true => simp at h1
      | false =>
        simp only [Bool.false_eq_true, if_false, Option.some.injEq, Prod.mk.injEq] at h1
        obtain ⟨e1, e2, e3, e4⟩ := h1
        have e1' : n = f.length := by omega
        subst e1'
        have e5 : fullOf f.length xs = f := by rw [e2]; exact fullOf_idx f
        rcases h with h | h | h | h | h | h
        · cases h
        · exact h e4
        · omega
        · omega
        · exact h (e2 ▸ idx_asc f)
        · rw [e5, e3, hs.1] at h; cases h
  · subst h1 h2
    have hm : min n 24 = n := by omega
    rw [hm] at H
    refine H.2 rfl rfl h5.toR h6 ?_
    simp only [Bool.false_eq_true, if_false] at hT
    unfold readT at hT
    cases hN : numL s 59 0 with
    | none => rw [hN] at hT; cases hT
    | some p =>
      obtain ⟨v, s1⟩ := p
      rw [hN] at hT
      simp only at hT
      cases hL : listL fI s1 with
      | none => rw [hL] at hT; cases hT
      | some p =>
        obtain ⟨ys, s2⟩ := p
        rw [hL] at hT
        simp only at hT
        cases hF : fI s2 with
        | none => rw [hF] at hT; cases hT
        | some p =>
          obtain ⟨u, s4⟩ := p
          rw [hF] at hT
          simp only [Option.some.injEq, Prod.mk.injEq] at hT
          obtain ⟨rfl, rfl, rfl, rfl⟩ := hT
          have a1 := numL_split hN
          have a2 := listL_split (enc := encI) fI_split hL
          have a3 := fI_split _ _ _ hF
          unfold encLay
          rw [idx_fullOf h5, fullOf_len, a1, a2, a3]
          simp [encI]
end Go.Proofs.YtgbgcmhmlnmklaaGreatDoor
namespace Go.Proofs.YtgbgcmhmlnmklaaGreatDoor
open Go.RowKit Go.IntWalk

/-- The world while the reference makes what it read: W is the world ahead of it. -/
structure QW (W wr : World) (gL gF n : Nat) (t : Int) (l : List Bool) : Prop where
  below : Below W.heap.size W wr
  bl : Blk wr gL 27 #[.slice (some ⟨gF, 0, none⟩) n n, .int .i64 t]
  bf : Blk wr gF 4 (l.map Value.bool).toArray
  hF : W.heap.size ≤ gF
  hL : W.heap.size ≤ gL
  ne : gF ≠ gL
theorem QW.mk2 {W : World} {n : Nat} {t : Int} :
    QW W ((W.alloc (.cells (madeCells #[.bool false] n) 4)).alloc (.cells #[.slice (some ⟨W.heap.size, 0, none⟩) n n, .int .i64 t] 27)) (W.heap.size + 1) W.heap.size n t (List.replicate n false) := by
  refine ⟨((Below.refl _ W).alloc (Nat.le_refl _) _).alloc (by simp) _, Blk.new_at (by simp), ?_, ?_, ?_, ?_⟩
  · rw [madeBools]; exact (Blk.new W _ _).alloc _
  all_goals omega
theorem QW.drew {W wr : World} {gL gF n : Nat} {t : Int} {l : List Bool} (h : QW W wr gL gF n t l) : QW W wr.drew gL gF n t l := ⟨h.below.drew, h.bl.drew, h.bf.drew, h.hF, h.hL, h.ne⟩
theorem QW.set {W wr : World} {gL gF n : Nat} {t : Int} {l l' : List Bool} (h : QW W wr gL gF n t l) (i : Nat) (hl : l' = l.set i true) : QW W (wr.setCell ⟨gF, i, none⟩ (.bool true)) gL gF n t l' := by
  refine ⟨h.below.setCell h.hF _, h.bl.far (Ne.symm h.ne) _, ?_, h.hF, h.hL, h.ne⟩
  have e : (l'.map Value.bool).toArray = (l.map Value.bool).toArray.setIfInBounds i (.bool true) := by
    rw [hl, List.map_set, List.setIfInBounds_toArray]
  rw [e]
  exact h.bf.set_ i _
theorem done_tt {b : Bool} {l : List UInt8} (h : true = (!b && l.isEmpty)) : b = false ∧ l = [] := by cases b <;> cases l <;> simp at h ⊢
set_option maxRecDepth 100000 in
set_option maxHeartbeats 4000000 in
theorem rlread_any (s : ByteArray) (w : World) (hs : s.size ≤ 20000) :
    Calls Tryz.prog 8 #[.string s] w (LaRes w (readLay s.data.toList)) := by
  have hsl := hid (size_list s)
  have hl0 : s.data.toList.length ≤ 20000 := by rw [← size_list]; exact hs
  obtain ⟨n, s1, bad1, hn0, hnI, hl1, cM, r1⟩ := num_ur s.data.toList false (by omega)
  obtain ⟨xs, s2, bad2, hxI, hxn, hl2, cN, r2⟩ := nums_ur s1 bad1 (by omega) (by rcases r1 with ⟨_, rfl⟩ | ⟨_, _, rfl, _⟩ <;> simp)
  obtain ⟨t, s3, bad3, htI, hl3, cI, r3⟩ := int_ur s2 bad2 (by omega)
  have hT := hid (show readT s.data.toList = if bad3 = true then none else some (n, xs, t, s3) by
    unfold readT
    rcases r1 with ⟨h1, rfl⟩ | ⟨h1, rfl, rfl, rfl⟩
    · rcases r2 with ⟨h2, rfl⟩ | ⟨h2, rfl, rfl, rfl⟩
      · rcases r3 with ⟨h3, rfl⟩ | ⟨h3, rfl, rfl, rfl⟩
        · rw [h1]; simp [h2, h3]
        · rw [h1]; simp [h2, h3]
      · rcases r3 with ⟨h3, rfl⟩ | ⟨h3, rfl, rfl, rfl⟩
        · rw [h1]; simp [h2]
        · rw [h1]; simp [h2]
    · have e1 : bad3 = true := by
        rcases r2 with ⟨h2, rfl⟩ | ⟨h2, rfl, rfl, rfl⟩ <;> rcases r3 with ⟨h3, rfl⟩ | ⟨h3, rfl, rfl, rfl⟩ <;> rfl
      rw [h1, e1]; simp)
  clear r1 r2 r3
  obtain ⟨n, rfl⟩ := Int.eq_ofNat_of_zero_le hn0
  clear hn0
  have HR := hid (readLay_ref htI hT.out)
  have CM := hid cM
  have CN := hid cN
  have CI := hid cI
  clear cM cN cI hT
  have Hx := hid hxI
  clear hxI
  have hnb := hnI.2
  have b0 := hid (Blk.new w 27 #[.slice none 0 0, .int .i64 0])
  have hb0 : Below w.heap.size w (w.alloc (Obj.cells #[.slice none 0 0, .int .i64 0] 27)) := by (repeat (first | exact Below.refl _ _ | assumption | refine below_drewN ?_ _ | refine Below.drew ?_ | refine Below.alloc ?_ (by (try simp); (try omega)) _ | refine Below.setCell ?_ (by (try simp); (try omega)) _))
  go_enter Tryz.func8, Tryz.ntmps8
  go_wp2_with fail
  refine (openR_any s _).mono ?_
  rintro e w1 ⟨rfl, hR, hB⟩
  have hB1 := hid (hb0.trans (hB.mono hb0.size))
  have r1 := hid (b0.out.below hB b0.out.lt)
  have hz1 := hR.lt
  clear hB b0 hb0
  generalize hbq : (w.alloc (Obj.cells #[.slice none 0 0, .int .i64 0] 27)).heap.size = b at *
  have hwb : w.heap.size < b := by rw [← hbq]; simp
  clear hbq
  go_wp2_with fail
  refine (CM.out _ _ hR).mono ?_
  rintro e w2 ⟨rfl, hR2, hg⟩
  have hB2 := hid (bg hB1.out hg (by omega))
  have r2 := hid (Blk.grown r1.out hg (fun e => by injection e with e; omega))
  have hz2 := hR2.lt
  clear hR hB1 hg CM hz1 r1
  go_wp2_with fail
  refine (CN.out _ _ hR2).mono ?_
  rintro e w3 ⟨A, c, rfl, hAc, hcm, hown, hsx, hR3, hg⟩
  have hB3 := bg hB2.out hg (by omega)
  have r3 := hid (Blk.grown r2.out hg (fun e => by injection e with e; omega))
  have hz3 := hR3.lt
  have hsb := hid (show ∀ b9 o9, A = some ⟨b9, o9, none⟩ → xs ≠ [] → b9 ≠ b by
    intro b9 o9 e1 hne e2
    subst e1 e2
    rcases hown.2 with ⟨hv, _⟩ | ⟨g, cap, cur, hv, hgb, _⟩
    · cases hv
    · simp only [Value.slice.injEq, Option.some.injEq, Addr.mk.injEq] at hv
      omega)
  clear hR2 hB2 hg CN hz2 r2 hown
  go_wp2_with fail
  refine (CI.out _ _ hR3).mono ?_
  rintro e w4 ⟨rfl, hR4, hg⟩
  have hB4 := hid (bg hB3 hg (by omega))
  have r4 := hid (Blk.grown r3.out hg (fun e => by injection e with e; omega))
  have hx4 := hid (slrI_keptb hsx hg (Nat.le_refl _) hsb.out)
  have hz4 := hid hg.size
  clear hR3 hB3 hg CI hz3 r3 hsx hsb
  have hd := doneR_any b s3 bad3 w4 hR4
  clear hR4
  have Hd : Hid (∃ q : Bool, q = (!bad3 && s3.isEmpty) ∧ Calls Tryz.prog 40 #[.pointer (some ⟨b, 0, none⟩)] w4 fun e w' => e = .returned (.bool q) ∧ Below w4.heap.size w4 w') := hid ⟨_, rfl, hd⟩
  clear hd
  obtain ⟨q, hq, hd⟩ := Hd.out
  clear Hd
  have Hq := hid hq
  clear hq
  have hfin : Hid (∀ (wx wy : World), Below w4.heap.size w4 wx → readLay s.data.toList = none → wy = (wx.setCell ⟨w.heap.size, 0, none⟩ (.slice none 0 0)).setCell ⟨w.heap.size, 1, none⟩ (.int .i64 0) → LaRes w (readLay s.data.toList) (.returned (.tuple #[.agg #[.slice none 0 0, .int .i64 0], .bool false])) wy) := hid fun wx wy hw hr e => by
    subst e
    refine laRes_none hr rfl ?_
    exact ((hB4.out.trans (hw.mono hB4.out.size)).setCell (Nat.le_refl _) _).setCell (Nat.le_refl _) _
  go_wp2_with fail
  refine hd.mono ?_
  rintro e w5 ⟨rfl, hB⟩
  have r5 := hid (r4.out.below hB r4.out.lt)
  have hx5 := hid (((hx4.out.more hz4.out).below hB).more hB.size)
  have B5 := hid hB
  have hw5 : Hid (w.heap.size < w5.heap.size) := hid (by have := r5.out.lt; exact this)
  clear r4 hx4 hz4 hd hB
  cases q with
  | false =>
    have hr := hid (HR.out.1 (by
      have hdn := Hq.out
      cases bad3 with
      | true => exact .inl rfl
      | false => exact .inr (.inl (by intro h; subst h; simp at hdn))))
    have x0 := r5.out.cell 0; have x1 := r5.out.cell 1; have f0 := r5.out.frozen 0; have f1 := r5.out.frozen 1; have lR := r5.out.lt
    simp at x0 x1
    go_wp2_with fail
    exact bodyPost_ret (v := .tuple #[.agg #[.slice none 0 0, .int .i64 0], .bool false]) (by simp [results, Tryz.results8, go_sem, x0, x1, f0, f1, lR]) rfl (hfin.out _ _ B5.out hr.out rfl)
  | true =>
    have Hb3 := hid (done_tt Hq.out)
    by_cases hn1 : 1 ≤ n ∧ n ≤ 24
    · obtain ⟨hn1, hn24⟩ := hn1
      have h1' : ¬ (n : Int) < 1 := by omega
      have h2' : ¬ (24 : Int) < n := by omega
      go_upto_region 7 with fail
      go_cut [8] (fun v wx => ∃ gL gF : Nat, v = .pointer (some ⟨gL, 0, none⟩) ∧ QW w5 wx gL gF n t (List.replicate n false))
      case first =>
        obtain ⟨i0, hi, hz0, hz1, hz2⟩ := info_parts infoBool
        have hmk := fun W => run_make_rowN (P := Tryz.prog) 25 4 i0 _ Tryz.underlying25 hi hz0 .i64 .i64 n n (Nat.le_refl _) (by rw [hz2]; omega) (by omega) W
        have Hz1 := hid hz1
        clear hi hz0 hz1 hz2
        go_wp2_with fail
        go_meet
        rw [Hz1.out, Nat.mul_one]
        exact ⟨_, _, rfl, QW.mk2⟩
      case rest =>
        clear h1' h2'
        obtain ⟨gL, gF, rfl, hu⟩ := hcut
        have hxl : xs.length ≤ 20000 := by omega
        have hu0 := hid hu
        clear hu
        go_wp2_with fail
        go_loopw [9] (fun i wr => ∃ k : Nat, k ≤ xs.length ∧ i = .int .i64 k ∧ QW w5 wr gL gF n t (fullOf n (xs.take k)) ∧ Hid (AscR n (xs.take k))) (fun i _ => xs.length - (intOf i).toNat)
        case atStart => exact ⟨0, by omega, rfl, hu0.out, AscR.nil n⟩
        case round =>
          clear hu0
          obtain ⟨k, hk, rfl, hu, hin⟩ := hrel
          have hfl := fullOf_len n (xs.take k)
          have rr := r5.out.below hu.below r5.out.lt
          have r0 := rr.cell 0; have r1 := rr.cell 1
          have fr0 := rr.frozen 0; have fr1 := rr.frozen 1; have lR := rr.lt
          have l0 := hu.bl.cell 0; have l1 := hu.bl.cell 1; have lL := hu.bl.lt
          simp at l0 l1 r0 r1
          by_cases hlt : k < xs.length
          · have hxs := (hx5.out.below hu.below)
            obtain ⟨b9, o9, rfl, hb9, g1, hi⟩ := hxs.int hlt
            have gp := hid (fun h : 0 < k => hxs.int_at (show k - 1 < xs.length by omega))
            have hsn := hid (fullOf_snoc n xs k hlt)
            have hsc := hid (hin.out.snoc hlt)
            have hnr := hid (AscR.not_rng (n := n) hlt)
            have hnl := hid (AscR.not_lt (n := n) hlt)
            have hlt' : (k : Int) < xs.length := by omega
            have HU := hid hu
            have Hfl := hid hfl
            clear hu hfl hxs
            generalize xs[k] = x at *
            by_cases hx0 : x < 0
            · have hr := hid (HR.out.1 (.inr (.inr (.inr (.inr (.inl (hnr.out (by omega))))))))
              as_aux_lemma =>
                go_upto_region 11 with fail
                refine wpIn_wide.1 (wpIn_region_S (n := 0) (fun wq => wq.cell? ⟨b9, o9 + k, none⟩ = some (.int .i64 x)) [] (by kernel_rfl) (g1) (fun hHeld => ?_))
                have HSF := hid (fun (wq : World) (hq : wq.cell? ⟨b9, o9 + k, none⟩ = some (.int .i64 x)) => hq)
                have HUd := hid (QW.drew HU.out)
                have rrd := rr.drew
                clear r0 r1 fr0 fr1 lR l0 l1 lL HU
                have g1 : wr.drew.cell? ⟨b9, o9 + (k), none⟩ = some (.int .i64 x) := g1
                generalize wr.drew = wd at *
                have HU := HUd
                have r0 := rrd.cell 0; have r1 := rrd.cell 1
                have fr0 := rrd.frozen 0; have fr1 := rrd.frozen 1; have lR := rrd.lt
                have l0 := HU.out.bl.cell 0; have l1 := HU.out.bl.cell 1; have lL := HU.out.bl.lt
                simp at l0 l1 r0 r1
                clear rrd HUd
                refine wpAnyG_pure 0 (v := ?_) (fun _ => trivial) (by simp only [List.getElem?_toArray, List.getElem?_cons_succ, List.getElem?_cons_zero]; rfl) (by kernel_rfl) (fun _ _ _ _ _ h => h) ⟨(by rfl), (by intro c h; cases h), ?_⟩ hHeld ?_
                rotate_left
                focus (intro wS hSw; (try replace hSw := HSF.out wS hSw); (try dsimp only at hSw); go_simp; (try with_reducible rfl))
                (try simp only [Act.put, List.setIfInBounds_toArray, List.set_cons_zero, List.set_cons_succ])
                refine wpAnyG_pure 1 (v := ?_) (fun _ => trivial) (by simp only [List.getElem?_toArray, List.getElem?_cons_succ, List.getElem?_cons_zero]; rfl) (by kernel_rfl) (fun _ _ _ _ _ h => h) ⟨(by rfl), (by intro c h; cases h), ?_⟩ hHeld ?_
                rotate_left
                focus (intro wS hSw; (try replace hSw := HSF.out wS hSw); (try dsimp only at hSw); go_simp; (try with_reducible rfl))
                (try simp only [Act.put, List.setIfInBounds_toArray, List.set_cons_zero, List.set_cons_succ])
                refine wpAnyG_pure 2 (v := ?_) (fun _ => trivial) (by simp only [List.getElem?_toArray, List.getElem?_cons_succ, List.getElem?_cons_zero]; rfl) (by kernel_rfl) (fun _ _ _ _ _ h => h) ⟨(by rfl), (by intro c h; cases h), ?_⟩ hHeld ?_
                rotate_left
                focus (intro wS hSw; (try replace hSw := HSF.out wS hSw); (try dsimp only at hSw); go_simp; (try with_reducible rfl))
                (try simp only [Act.put, List.setIfInBounds_toArray, List.set_cons_zero, List.set_cons_succ])
                refine wpAnyG_take 3 (v := ?_) (fun _ => trivial) (by simp only [List.getElem?_toArray, List.getElem?_cons_succ, List.getElem?_cons_zero]; rfl) (by kernel_rfl) (fun _ _ _ _ _ h => h) ⟨(by rfl), (by intro c h; cases h), ?_⟩ hHeld ?_
                rotate_left
                focus (intro wS hSw; (try replace hSw := HSF.out wS hSw); (try dsimp only at hSw); go_simp; (try with_reducible rfl))
                (try simp only [Act.put, List.setIfInBounds_toArray, List.set_cons_zero, List.set_cons_succ])
                refine wpAnyG_pure 4 (v := ?_) (fun _ => trivial) (by simp only [List.getElem?_toArray, List.getElem?_cons_succ, List.getElem?_cons_zero]; rfl) (by kernel_rfl) (fun _ _ _ _ _ h => h) ⟨(by rfl), (by intro c h; cases h), ?_⟩ hHeld ?_
                rotate_left
                focus (intro wS hSw; (try replace hSw := HSF.out wS hSw); (try dsimp only at hSw); go_simp; (try with_reducible rfl))
                (try simp only [Act.put, List.setIfInBounds_toArray, List.set_cons_zero, List.set_cons_succ])
                refine wpAnyG_pure 5 (v := ?_) (fun _ => trivial) (by simp only [List.getElem?_toArray, List.getElem?_cons_succ, List.getElem?_cons_zero]; rfl) (by kernel_rfl) (fun _ _ _ _ _ h => h) ⟨(by rfl), (by intro c h; cases h), ?_⟩ hHeld ?_
                rotate_left
                focus (intro wS hSw; (try replace hSw := HSF.out wS hSw); (try dsimp only at hSw); go_simp; (try with_reducible rfl))
                (try simp only [Act.put, List.setIfInBounds_toArray, List.set_cons_zero, List.set_cons_succ])
                refine wpAnyG_skip 6 (fun _ => trivial) (by simp only [List.getElem?_toArray, List.getElem?_cons_succ, List.getElem?_cons_zero]; rfl) (by kernel_rfl) (fun _ _ _ _ _ h => h) (by rfl) hHeld ?_
                (try simp only [Act.put, List.setIfInBounds_toArray, List.set_cons_zero, List.set_cons_succ])
                refine wpAnyG_skip 7 (fun _ => trivial) (by simp only [List.getElem?_toArray, List.getElem?_cons_succ, List.getElem?_cons_zero]; rfl) (by kernel_rfl) (fun _ _ _ _ _ h => h) (by rfl) hHeld ?_
                (try simp only [Act.put, List.setIfInBounds_toArray, List.set_cons_zero, List.set_cons_succ])
                refine wpAnyG_skip 8 (fun _ => trivial) (by simp only [List.getElem?_toArray, List.getElem?_cons_succ, List.getElem?_cons_zero]; rfl) (by kernel_rfl) (fun _ _ _ _ _ h => h) (by rfl) hHeld ?_
                (try simp only [Act.put, List.setIfInBounds_toArray, List.set_cons_zero, List.set_cons_succ])
                refine wpAnyG_skip 9 (fun _ => trivial) (by simp only [List.getElem?_toArray, List.getElem?_cons_succ, List.getElem?_cons_zero]; rfl) (by kernel_rfl) (fun _ _ _ _ _ h => h) (by rfl) hHeld ?_
                (try simp only [Act.put, List.setIfInBounds_toArray, List.set_cons_zero, List.set_cons_succ])
                refine wpAnyG_skip 10 (fun _ => trivial) (by simp only [List.getElem?_toArray, List.getElem?_cons_succ, List.getElem?_cons_zero]; rfl) (by kernel_rfl) (fun _ _ _ _ _ h => h) (by rfl) hHeld ?_
                (try simp only [Act.put, List.setIfInBounds_toArray, List.set_cons_zero, List.set_cons_succ])
                refine wpAnyG_skip 11 (fun _ => trivial) (by simp only [List.getElem?_toArray, List.getElem?_cons_succ, List.getElem?_cons_zero]; rfl) (by kernel_rfl) (fun _ _ _ _ _ h => h) (by rfl) hHeld ?_
                (try simp only [Act.put, List.setIfInBounds_toArray, List.set_cons_zero, List.set_cons_succ])
                refine wpAnyG_pure 12 (v := ?_) (fun _ => trivial) (by simp only [List.getElem?_toArray, List.getElem?_cons_succ, List.getElem?_cons_zero]; rfl) (by kernel_rfl) (fun _ _ _ _ _ h => h) ⟨(by rfl), (by intro c h; cases h), ?_⟩ hHeld ?_
                rotate_left
                focus (intro wS hSw; (try replace hSw := HSF.out wS hSw); (try dsimp only at hSw); go_simp; (try with_reducible rfl))
                (try simp only [Act.put, List.setIfInBounds_toArray, List.set_cons_zero, List.set_cons_succ])
                refine wpAnyG_pure 13 (v := ?_) (fun _ => trivial) (by simp only [List.getElem?_toArray, List.getElem?_cons_succ, List.getElem?_cons_zero]; rfl) (by kernel_rfl) (fun _ _ _ _ _ h => h) ⟨(by rfl), (by intro c h; cases h), ?_⟩ hHeld ?_
                rotate_left
                focus (intro wS hSw; (try replace hSw := HSF.out wS hSw); (try dsimp only at hSw); go_simp; (try with_reducible rfl))
                (try simp only [Act.put, List.setIfInBounds_toArray, List.set_cons_zero, List.set_cons_succ])
                refine wpAnyG_skip 14 (fun _ => trivial) (by simp only [List.getElem?_toArray, List.getElem?_cons_succ, List.getElem?_cons_zero]; rfl) (by kernel_rfl) (fun _ _ _ _ _ h => h) (by rfl) hHeld ?_
                (try simp only [Act.put, List.setIfInBounds_toArray, List.set_cons_zero, List.set_cons_succ])
                refine wpAnyG_skip 15 (fun _ => trivial) (by simp only [List.getElem?_toArray, List.getElem?_cons_succ, List.getElem?_cons_zero]; rfl) (by kernel_rfl) (fun _ _ _ _ _ h => h) (by rfl) hHeld ?_
                (try simp only [Act.put, List.setIfInBounds_toArray, List.set_cons_zero, List.set_cons_succ])
                refine wpAnyG_skip 16 (fun _ => trivial) (by simp only [List.getElem?_toArray, List.getElem?_cons_succ, List.getElem?_cons_zero]; rfl) (by kernel_rfl) (fun _ _ _ _ _ h => h) (by rfl) hHeld ?_
                (try simp only [Act.put, List.setIfInBounds_toArray, List.set_cons_zero, List.set_cons_succ])
                refine wpAnyG_skip 17 (fun _ => trivial) (by simp only [List.getElem?_toArray, List.getElem?_cons_succ, List.getElem?_cons_zero]; rfl) (by kernel_rfl) (fun _ _ _ _ _ h => h) (by rfl) hHeld ?_
                (try simp only [Act.put, List.setIfInBounds_toArray, List.set_cons_zero, List.set_cons_succ])
                refine wpAnyG_skip 18 (fun _ => trivial) (by simp only [List.getElem?_toArray, List.getElem?_cons_succ, List.getElem?_cons_zero]; rfl) (by kernel_rfl) (fun _ _ _ _ _ h => h) (by rfl) hHeld ?_
                (try simp only [Act.put, List.setIfInBounds_toArray, List.set_cons_zero, List.set_cons_succ])
                refine wpAnyG_skip 19 (fun _ => trivial) (by simp only [List.getElem?_toArray, List.getElem?_cons_succ, List.getElem?_cons_zero]; rfl) (by kernel_rfl) (fun _ _ _ _ _ h => h) (by rfl) hHeld ?_
                (try simp only [Act.put, List.setIfInBounds_toArray, List.set_cons_zero, List.set_cons_succ])
                refine wpAnyG_skip 20 (fun _ => trivial) (by simp only [List.getElem?_toArray, List.getElem?_cons_succ, List.getElem?_cons_zero]; rfl) (by kernel_rfl) (fun _ _ _ _ _ h => h) (by rfl) hHeld ?_
                (try simp only [Act.put, List.setIfInBounds_toArray, List.set_cons_zero, List.set_cons_succ])
                refine wpAnyG_skip 21 (fun _ => trivial) (by simp only [List.getElem?_toArray, List.getElem?_cons_succ, List.getElem?_cons_zero]; rfl) (by kernel_rfl) (fun _ _ _ _ _ h => h) (by rfl) hHeld ?_
                (try simp only [Act.put, List.setIfInBounds_toArray, List.set_cons_zero, List.set_cons_succ])
                refine wpAnyG_skip 22 (fun _ => trivial) (by simp only [List.getElem?_toArray, List.getElem?_cons_succ, List.getElem?_cons_zero]; rfl) (by kernel_rfl) (fun _ _ _ _ _ h => h) (by rfl) hHeld ?_
                (try simp only [Act.put, List.setIfInBounds_toArray, List.set_cons_zero, List.set_cons_succ])
                refine wpAnyG_skip 23 (fun _ => trivial) (by simp only [List.getElem?_toArray, List.getElem?_cons_succ, List.getElem?_cons_zero]; rfl) (by kernel_rfl) (fun _ _ _ _ _ h => h) (by rfl) hHeld ?_
                (try simp only [Act.put, List.setIfInBounds_toArray, List.set_cons_zero, List.set_cons_succ])
                refine wpAnyG_skip 24 (fun _ => trivial) (by simp only [List.getElem?_toArray, List.getElem?_cons_succ, List.getElem?_cons_zero]; rfl) (by kernel_rfl) (fun _ _ _ _ _ h => h) (by rfl) hHeld ?_
                (try simp only [Act.put, List.setIfInBounds_toArray, List.set_cons_zero, List.set_cons_succ])
                refine wpAnyG_skip 25 (fun _ => trivial) (by simp only [List.getElem?_toArray, List.getElem?_cons_succ, List.getElem?_cons_zero]; rfl) (by kernel_rfl) (fun _ _ _ _ _ h => h) (by rfl) hHeld ?_
                (try simp only [Act.put, List.setIfInBounds_toArray, List.set_cons_zero, List.set_cons_succ])
                refine wpAnyG_skip 26 (fun _ => trivial) (by simp only [List.getElem?_toArray, List.getElem?_cons_succ, List.getElem?_cons_zero]; rfl) (by kernel_rfl) (fun _ _ _ _ _ h => h) (by rfl) hHeld ?_
                (try simp only [Act.put, List.setIfInBounds_toArray, List.set_cons_zero, List.set_cons_succ])
                refine wpAnyG_skip 27 (fun _ => trivial) (by simp only [List.getElem?_toArray, List.getElem?_cons_succ, List.getElem?_cons_zero]; rfl) (by kernel_rfl) (fun _ _ _ _ _ h => h) (by rfl) hHeld ?_
                (try simp only [Act.put, List.setIfInBounds_toArray, List.set_cons_zero, List.set_cons_succ])
                refine wpAnyG_skip 28 (fun _ => trivial) (by simp only [List.getElem?_toArray, List.getElem?_cons_succ, List.getElem?_cons_zero]; rfl) (by kernel_rfl) (fun _ _ _ _ _ h => h) (by rfl) hHeld ?_
                (try simp only [Act.put, List.setIfInBounds_toArray, List.set_cons_zero, List.set_cons_succ])
                refine wpAnyG_pure 29 (v := ?_) (fun _ => trivial) (by simp only [List.getElem?_toArray, List.getElem?_cons_succ, List.getElem?_cons_zero]; rfl) (by kernel_rfl) (fun _ _ _ _ _ h => h) ⟨(by rfl), (by intro c h; cases h), ?_⟩ hHeld ?_
                rotate_left
                focus (intro wS hSw; (try replace hSw := HSF.out wS hSw); (try dsimp only at hSw); go_simp; (try with_reducible rfl))
                (try simp only [Act.put, List.setIfInBounds_toArray, List.set_cons_zero, List.set_cons_succ])
                refine wpAnyS_done (by kernel_rfl) ?_
                clear hHeld HSF
                go_wp2_with fail
                refine bodyPost_ret (v := .tuple #[.agg #[.slice none 0 0, .int .i64 0], .bool false]) (by simp [results, Tryz.results8, go_sem, r0, r1, fr0, fr1, lR]) rfl (hfin.out _ _ (B5.out.trans (HU.out.below.mono B5.out.size)) hr.out rfl)
            · obtain ⟨m, rfl⟩ := Int.eq_ofNat_of_zero_le (show 0 ≤ x by omega)
              by_cases hxN : m < n
              · have hnd : decide ((n : Int) ≤ (m : Int)) = false := decide_eq_false (by omega)
                have hne : decide (n ≤ m) = false := decide_eq_false (by omega)
                by_cases hk0 : k = 0
                · have hst := hid (hsc.out ⟨by omega, by omega⟩ (fun h => by omega))
                  have hkd : decide ((0 : Int) < (k : Int)) = false := decide_eq_false (by omega)
                  have hke : decide (0 < k) = false := decide_eq_false (by omega)
                  have Hk0 := hid hk0
                  clear hk0
                  as_aux_lemma =>
                    go_upto_region 11 with fail
                    refine wpIn_wide.1 (wpIn_region_S (n := 0) (fun wq => wq.cell? ⟨b9, o9 + k, none⟩ = some (.int .i64 (m : Nat))) [] (by kernel_rfl) (g1) (fun hHeld => ?_))
                    have HSF := hid (fun (wq : World) (hq : wq.cell? ⟨b9, o9 + k, none⟩ = some (.int .i64 (m : Nat))) => hq)
                    have HUd := hid (QW.drew HU.out)
                    have rrd := rr.drew
                    clear r0 r1 fr0 fr1 lR l0 l1 lL HU
                    have g1 : wr.drew.cell? ⟨b9, o9 + (k), none⟩ = some (.int .i64 (m : Nat)) := g1
                    generalize wr.drew = wd at *
                    have HU := HUd
                    have r0 := rrd.cell 0; have r1 := rrd.cell 1
                    have fr0 := rrd.frozen 0; have fr1 := rrd.frozen 1; have lR := rrd.lt
                    have l0 := HU.out.bl.cell 0; have l1 := HU.out.bl.cell 1; have lL := HU.out.bl.lt
                    simp at l0 l1 r0 r1
                    clear rrd HUd
                    refine wpAnyG_pure 0 (v := ?_) (fun _ => trivial) (by simp only [List.getElem?_toArray, List.getElem?_cons_succ, List.getElem?_cons_zero]; rfl) (by kernel_rfl) (fun _ _ _ _ _ h => h) ⟨(by rfl), (by intro c h; cases h), ?_⟩ hHeld ?_
                    rotate_left
                    focus (intro wS hSw; (try replace hSw := HSF.out wS hSw); (try dsimp only at hSw); go_simp; (try with_reducible rfl))
                    (try simp only [Act.put, List.setIfInBounds_toArray, List.set_cons_zero, List.set_cons_succ])
                    refine wpAnyG_pure 1 (v := ?_) (fun _ => trivial) (by simp only [List.getElem?_toArray, List.getElem?_cons_succ, List.getElem?_cons_zero]; rfl) (by kernel_rfl) (fun _ _ _ _ _ h => h) ⟨(by rfl), (by intro c h; cases h), ?_⟩ hHeld ?_
                    rotate_left
                    focus (intro wS hSw; (try replace hSw := HSF.out wS hSw); (try dsimp only at hSw); go_simp; (try with_reducible rfl))
                    (try simp only [Act.put, List.setIfInBounds_toArray, List.set_cons_zero, List.set_cons_succ])
                    refine wpAnyG_pure 2 (v := ?_) (fun _ => trivial) (by simp only [List.getElem?_toArray, List.getElem?_cons_succ, List.getElem?_cons_zero]; rfl) (by kernel_rfl) (fun _ _ _ _ _ h => h) ⟨(by rfl), (by intro c h; cases h), ?_⟩ hHeld ?_
                    rotate_left
                    focus (intro wS hSw; (try replace hSw := HSF.out wS hSw); (try dsimp only at hSw); go_simp; (try with_reducible rfl))
                    (try simp only [Act.put, List.setIfInBounds_toArray, List.set_cons_zero, List.set_cons_succ])
                    refine wpAnyG_take 3 (v := ?_) (fun _ => trivial) (by simp only [List.getElem?_toArray, List.getElem?_cons_succ, List.getElem?_cons_zero]; rfl) (by kernel_rfl) (fun _ _ _ _ _ h => h) ⟨(by rfl), (by intro c h; cases h), ?_⟩ hHeld ?_
                    rotate_left
                    focus (intro wS hSw; (try replace hSw := HSF.out wS hSw); (try dsimp only at hSw); go_simp; (try with_reducible rfl))
                    (try simp only [Act.put, List.setIfInBounds_toArray, List.set_cons_zero, List.set_cons_succ])
                    refine wpAnyG_pure 4 (v := ?_) (fun _ => trivial) (by simp only [List.getElem?_toArray, List.getElem?_cons_succ, List.getElem?_cons_zero]; rfl) (by kernel_rfl) (fun _ _ _ _ _ h => h) ⟨(by rfl), (by intro c h; cases h), ?_⟩ hHeld ?_
                    rotate_left
                    focus (intro wS hSw; (try replace hSw := HSF.out wS hSw); (try dsimp only at hSw); go_simp; (try with_reducible rfl))
                    (try simp only [Act.put, List.setIfInBounds_toArray, List.set_cons_zero, List.set_cons_succ])
                    refine wpAnyG_pure 5 (v := ?_) (fun _ => trivial) (by simp only [List.getElem?_toArray, List.getElem?_cons_succ, List.getElem?_cons_zero]; rfl) (by kernel_rfl) (fun _ _ _ _ _ h => h) ⟨(by rfl), (by intro c h; cases h), ?_⟩ hHeld ?_
                    rotate_left
                    focus (intro wS hSw; (try replace hSw := HSF.out wS hSw); (try dsimp only at hSw); go_simp; (try with_reducible rfl))
                    (try simp only [Act.put, List.setIfInBounds_toArray, List.set_cons_zero, List.set_cons_succ])
                    refine wpAnyG_pure 6 (v := ?_) (fun _ => trivial) (by simp only [List.getElem?_toArray, List.getElem?_cons_succ, List.getElem?_cons_zero]; rfl) (by kernel_rfl) (fun _ _ _ _ _ h => h) ⟨(by rfl), (by intro c h; cases h), ?_⟩ hHeld ?_
                    rotate_left
                    focus (intro wS hSw; (try replace hSw := HSF.out wS hSw); (try dsimp only at hSw); go_simp; (try with_reducible rfl))
                    (try simp only [Act.put, List.setIfInBounds_toArray, List.set_cons_zero, List.set_cons_succ])
                    refine wpAnyG_pure 7 (v := ?_) (fun _ => trivial) (by simp only [List.getElem?_toArray, List.getElem?_cons_succ, List.getElem?_cons_zero]; rfl) (by kernel_rfl) (fun _ _ _ _ _ h => h) ⟨(by rfl), (by intro c h; cases h), ?_⟩ hHeld ?_
                    rotate_left
                    focus (intro wS hSw; (try replace hSw := HSF.out wS hSw); (try dsimp only at hSw); go_simp; (try with_reducible rfl))
                    (try simp only [Act.put, List.setIfInBounds_toArray, List.set_cons_zero, List.set_cons_succ])
                    refine wpAnyG_pure 8 (v := ?_) (fun _ => trivial) (by simp only [List.getElem?_toArray, List.getElem?_cons_succ, List.getElem?_cons_zero]; rfl) (by kernel_rfl) (fun _ _ _ _ _ h => h) ⟨(by rfl), (by intro c h; cases h), ?_⟩ hHeld ?_
                    rotate_left
                    focus (intro wS hSw; (try replace hSw := HSF.out wS hSw); (try dsimp only at hSw); go_simp; (try with_reducible rfl))
                    (try simp only [Act.put, List.setIfInBounds_toArray, List.set_cons_zero, List.set_cons_succ])
                    refine wpAnyG_take 9 (v := ?_) (fun _ => trivial) (by simp only [List.getElem?_toArray, List.getElem?_cons_succ, List.getElem?_cons_zero]; rfl) (by kernel_rfl) (fun _ _ _ _ _ h => h) ⟨(by rfl), (by intro c h; cases h), ?_⟩ hHeld ?_
                    rotate_left
                    focus (intro wS hSw; (try replace hSw := HSF.out wS hSw); (try dsimp only at hSw); go_simp; (try with_reducible rfl))
                    (try simp only [Act.put, List.setIfInBounds_toArray, List.set_cons_zero, List.set_cons_succ])
                    refine wpAnyG_pure 10 (v := ?_) (fun _ => trivial) (by simp only [List.getElem?_toArray, List.getElem?_cons_succ, List.getElem?_cons_zero]; rfl) (by kernel_rfl) (fun _ _ _ _ _ h => h) ⟨(by rfl), (by intro c h; cases h), ?_⟩ hHeld ?_
                    rotate_left
                    focus (intro wS hSw; (try replace hSw := HSF.out wS hSw); (try dsimp only at hSw); go_simp; (try with_reducible rfl))
                    (try simp only [Act.put, List.setIfInBounds_toArray, List.set_cons_zero, List.set_cons_succ])
                    refine wpAnyG_pure 11 (v := ?_) (fun _ => trivial) (by simp only [List.getElem?_toArray, List.getElem?_cons_succ, List.getElem?_cons_zero]; rfl) (by kernel_rfl) (fun _ _ _ _ _ h => h) ⟨(by rfl), (by intro c h; cases h), ?_⟩ hHeld ?_
                    rotate_left
                    focus (intro wS hSw; (try replace hSw := HSF.out wS hSw); (try dsimp only at hSw); go_simp; (try with_reducible rfl))
                    (try simp only [Act.put, List.setIfInBounds_toArray, List.set_cons_zero, List.set_cons_succ])
                    refine wpAnyG_pure 12 (v := ?_) (fun _ => trivial) (by simp only [List.getElem?_toArray, List.getElem?_cons_succ, List.getElem?_cons_zero]; rfl) (by kernel_rfl) (fun _ _ _ _ _ h => h) ⟨(by rfl), (by intro c h; cases h), ?_⟩ hHeld ?_
                    rotate_left
                    focus (intro wS hSw; (try replace hSw := HSF.out wS hSw); (try dsimp only at hSw); go_simp; (try with_reducible rfl))
                    (try simp only [Act.put, List.setIfInBounds_toArray, List.set_cons_zero, List.set_cons_succ])
                    refine wpAnyG_pure 13 (v := ?_) (fun _ => trivial) (by simp only [List.getElem?_toArray, List.getElem?_cons_succ, List.getElem?_cons_zero]; rfl) (by kernel_rfl) (fun _ _ _ _ _ h => h) ⟨(by rfl), (by intro c h; cases h), ?_⟩ hHeld ?_
                    rotate_left
                    focus (intro wS hSw; (try replace hSw := HSF.out wS hSw); (try dsimp only at hSw); go_simp; (try with_reducible rfl))
                    (try simp only [Act.put, List.setIfInBounds_toArray, List.set_cons_zero, List.set_cons_succ])
                    refine wpAnyG_pure 14 (v := ?_) (fun _ => trivial) (by simp only [List.getElem?_toArray, List.getElem?_cons_succ, List.getElem?_cons_zero]; rfl) (by kernel_rfl) (fun _ _ _ _ _ h => h) ⟨(by rfl), (by intro c h; cases h), ?_⟩ hHeld ?_
                    rotate_left
                    focus (intro wS hSw; (try replace hSw := HSF.out wS hSw); (try dsimp only at hSw); go_simp; (try with_reducible rfl))
                    (try simp only [Act.put, List.setIfInBounds_toArray, List.set_cons_zero, List.set_cons_succ])
                    refine wpAnyG_pure 15 (v := ?_) (fun _ => trivial) (by simp only [List.getElem?_toArray, List.getElem?_cons_succ, List.getElem?_cons_zero]; rfl) (by kernel_rfl) (fun _ _ _ _ _ h => h) ⟨(by rfl), (by intro c h; cases h), ?_⟩ hHeld ?_
                    rotate_left
                    focus (intro wS hSw; (try replace hSw := HSF.out wS hSw); (try dsimp only at hSw); go_simp; (try with_reducible rfl))
                    (try simp only [Act.put, List.setIfInBounds_toArray, List.set_cons_zero, List.set_cons_succ])
                    refine wpAnyG_pure 16 (v := ?_) (fun _ => trivial) (by simp only [List.getElem?_toArray, List.getElem?_cons_succ, List.getElem?_cons_zero]; rfl) (by kernel_rfl) (fun _ _ _ _ _ h => h) ⟨(by rfl), (by intro c h; cases h), ?_⟩ hHeld ?_
                    rotate_left
                    focus (intro wS hSw; (try replace hSw := HSF.out wS hSw); (try dsimp only at hSw); go_simp; (try with_reducible rfl))
                    (try simp only [Act.put, List.setIfInBounds_toArray, List.set_cons_zero, List.set_cons_succ])
                    refine wpAnyG_skip 17 (fun _ => trivial) (by simp only [List.getElem?_toArray, List.getElem?_cons_succ, List.getElem?_cons_zero]; rfl) (by kernel_rfl) (fun _ _ _ _ _ h => h) (by rfl) hHeld ?_
                    (try simp only [Act.put, List.setIfInBounds_toArray, List.set_cons_zero, List.set_cons_succ])
                    refine wpAnyG_skip 18 (fun _ => trivial) (by simp only [List.getElem?_toArray, List.getElem?_cons_succ, List.getElem?_cons_zero]; rfl) (by kernel_rfl) (fun _ _ _ _ _ h => h) (by rfl) hHeld ?_
                    (try simp only [Act.put, List.setIfInBounds_toArray, List.set_cons_zero, List.set_cons_succ])
                    refine wpAnyG_skip 19 (fun _ => trivial) (by simp only [List.getElem?_toArray, List.getElem?_cons_succ, List.getElem?_cons_zero]; rfl) (by kernel_rfl) (fun _ _ _ _ _ h => h) (by rfl) hHeld ?_
                    (try simp only [Act.put, List.setIfInBounds_toArray, List.set_cons_zero, List.set_cons_succ])
                    refine wpAnyG_skip 20 (fun _ => trivial) (by simp only [List.getElem?_toArray, List.getElem?_cons_succ, List.getElem?_cons_zero]; rfl) (by kernel_rfl) (fun _ _ _ _ _ h => h) (by rfl) hHeld ?_
                    (try simp only [Act.put, List.setIfInBounds_toArray, List.set_cons_zero, List.set_cons_succ])
                    refine wpAnyG_skip 21 (fun _ => trivial) (by simp only [List.getElem?_toArray, List.getElem?_cons_succ, List.getElem?_cons_zero]; rfl) (by kernel_rfl) (fun _ _ _ _ _ h => h) (by rfl) hHeld ?_
                    (try simp only [Act.put, List.setIfInBounds_toArray, List.set_cons_zero, List.set_cons_succ])
                    refine wpAnyG_skip 22 (fun _ => trivial) (by simp only [List.getElem?_toArray, List.getElem?_cons_succ, List.getElem?_cons_zero]; rfl) (by kernel_rfl) (fun _ _ _ _ _ h => h) (by rfl) hHeld ?_
                    (try simp only [Act.put, List.setIfInBounds_toArray, List.set_cons_zero, List.set_cons_succ])
                    refine wpAnyG_skip 23 (fun _ => trivial) (by simp only [List.getElem?_toArray, List.getElem?_cons_succ, List.getElem?_cons_zero]; rfl) (by kernel_rfl) (fun _ _ _ _ _ h => h) (by rfl) hHeld ?_
                    (try simp only [Act.put, List.setIfInBounds_toArray, List.set_cons_zero, List.set_cons_succ])
                    refine wpAnyG_skip 24 (fun _ => trivial) (by simp only [List.getElem?_toArray, List.getElem?_cons_succ, List.getElem?_cons_zero]; rfl) (by kernel_rfl) (fun _ _ _ _ _ h => h) (by rfl) hHeld ?_
                    (try simp only [Act.put, List.setIfInBounds_toArray, List.set_cons_zero, List.set_cons_succ])
                    refine wpAnyG_skip 25 (fun _ => trivial) (by simp only [List.getElem?_toArray, List.getElem?_cons_succ, List.getElem?_cons_zero]; rfl) (by kernel_rfl) (fun _ _ _ _ _ h => h) (by rfl) hHeld ?_
                    (try simp only [Act.put, List.setIfInBounds_toArray, List.set_cons_zero, List.set_cons_succ])
                    refine wpAnyG_skip 26 (fun _ => trivial) (by simp only [List.getElem?_toArray, List.getElem?_cons_succ, List.getElem?_cons_zero]; rfl) (by kernel_rfl) (fun _ _ _ _ _ h => h) (by rfl) hHeld ?_
                    (try simp only [Act.put, List.setIfInBounds_toArray, List.set_cons_zero, List.set_cons_succ])
                    refine wpAnyG_skip 27 (fun _ => trivial) (by simp only [List.getElem?_toArray, List.getElem?_cons_succ, List.getElem?_cons_zero]; rfl) (by kernel_rfl) (fun _ _ _ _ _ h => h) (by rfl) hHeld ?_
                    (try simp only [Act.put, List.setIfInBounds_toArray, List.set_cons_zero, List.set_cons_succ])
                    refine wpAnyG_pure 28 (v := ?_) (fun _ => trivial) (by simp only [List.getElem?_toArray, List.getElem?_cons_succ, List.getElem?_cons_zero]; rfl) (by kernel_rfl) (fun _ _ _ _ _ h => h) ⟨(by rfl), (by intro c h; cases h), ?_⟩ hHeld ?_
                    rotate_left
                    focus (intro wS hSw; (try replace hSw := HSF.out wS hSw); (try dsimp only at hSw); go_simp; (try with_reducible rfl))
                    (try simp only [Act.put, List.setIfInBounds_toArray, List.set_cons_zero, List.set_cons_succ])
                    refine wpAnyG_pure 29 (v := ?_) (fun _ => trivial) (by simp only [List.getElem?_toArray, List.getElem?_cons_succ, List.getElem?_cons_zero]; rfl) (by kernel_rfl) (fun _ _ _ _ _ h => h) ⟨(by rfl), (by intro c h; cases h), ?_⟩ hHeld ?_
                    rotate_left
                    focus (intro wS hSw; (try replace hSw := HSF.out wS hSw); (try dsimp only at hSw); go_simp; (try with_reducible rfl))
                    (try simp only [Act.put, List.setIfInBounds_toArray, List.set_cons_zero, List.set_cons_succ])
                    refine wpAnyS_done (by kernel_rfl) ?_
                    clear hHeld HSF
                    have hcf := HU.out.bf.cell m
                    have hff := HU.out.bf.frozen m
                    have hlF := HU.out.bf.lt
                    have hmf : m < (fullOf n (xs.take (k))).length := by rw [Hfl.out]; exact hxN
                    rw [List.getElem?_toArray, List.getElem?_map, List.getElem?_eq_getElem hmf] at hcf
                    simp only [Option.map_some] at hcf
                    generalize (fullOf n (List.take (k) xs))[m] = y at hcf
                    have hl0 := l0
                    clear hmf r0 r1 fr0 fr1 lR l1
                    go_upto_region 13 with fail
                    refine wpIn_wide.1 (wpIn_region_S (n := 0) (fun wq => wq.cell? ⟨b9, o9 + (k), none⟩ = some (.int .i64 (m : Nat)) ∧ wq.cell? ⟨gL, 0, none⟩ = some (.slice (some ⟨gF, 0, none⟩) n n)) [] (by kernel_rfl) ⟨g1, l0⟩ (fun hHeld => ?_))
                    have HSF := hid (fun (wq : World) (hq : wq.cell? ⟨b9, o9 + (k), none⟩ = some (.int .i64 (m : Nat)) ∧ wq.cell? ⟨gL, 0, none⟩ = some (.slice (some ⟨gF, 0, none⟩) n n)) => hq)
                    have HUe := hid (QW.drew HU.out)
                    have g1e : wd.drew.cell? ⟨b9, o9 + (k), none⟩ = some (.int .i64 (m : Nat)) := g1
                    have hce : wd.drew.cell? ⟨gF, m, none⟩ = some (.bool y) := hcf
                    have hfe : wd.drew.frozen? ⟨gF, m, none⟩ = false := hff
                    have hle : gF < wd.drew.heap.size := hlF
                    clear hcf hff hlF l0 lL HU g1
                    generalize wd.drew = we at *
                    refine wpAnyG_pure 0 (v := ?_) (fun _ => trivial) (by simp only [List.getElem?_toArray, List.getElem?_cons_succ, List.getElem?_cons_zero]; rfl) (by kernel_rfl) (fun _ _ _ _ _ h => h) ⟨(by rfl), (by intro c h; cases h), ?_⟩ hHeld ?_
                    rotate_left
                    focus (intro wS hSw; (try replace hSw := HSF.out wS hSw); (try dsimp only at hSw); go_simp; (try with_reducible rfl))
                    (try simp only [Act.put, List.setIfInBounds_toArray, List.set_cons_zero, List.set_cons_succ])
                    refine wpAnyG_take 1 (v := ?_) (fun _ => trivial) (by simp only [List.getElem?_toArray, List.getElem?_cons_succ, List.getElem?_cons_zero]; rfl) (by kernel_rfl) (fun _ _ _ _ _ h => h) ⟨(by rfl), (by intro c h; cases h), ?_⟩ hHeld ?_
                    rotate_left
                    focus (intro wS hSw; (try replace hSw := HSF.out wS hSw); (try dsimp only at hSw); go_simp; (try with_reducible rfl))
                    (try simp only [Act.put, List.setIfInBounds_toArray, List.set_cons_zero, List.set_cons_succ])
                    refine wpAnyG_pure 2 (v := ?_) (fun _ => trivial) (by simp only [List.getElem?_toArray, List.getElem?_cons_succ, List.getElem?_cons_zero]; rfl) (by kernel_rfl) (fun _ _ _ _ _ h => h) ⟨(by rfl), (by intro c h; cases h), ?_⟩ hHeld ?_
                    rotate_left
                    focus (intro wS hSw; (try replace hSw := HSF.out wS hSw); (try dsimp only at hSw); go_simp; (try with_reducible rfl))
                    (try simp only [Act.put, List.setIfInBounds_toArray, List.set_cons_zero, List.set_cons_succ])
                    refine wpAnyG_pure 3 (v := ?_) (fun _ => trivial) (by simp only [List.getElem?_toArray, List.getElem?_cons_succ, List.getElem?_cons_zero]; rfl) (by kernel_rfl) (fun _ _ _ _ _ h => h) ⟨(by rfl), (by intro c h; cases h), ?_⟩ hHeld ?_
                    rotate_left
                    focus (intro wS hSw; (try replace hSw := HSF.out wS hSw); (try dsimp only at hSw); go_simp; (try with_reducible rfl))
                    (try simp only [Act.put, List.setIfInBounds_toArray, List.set_cons_zero, List.set_cons_succ])
                    refine wpAnyG_pure 4 (v := ?_) (fun _ => trivial) (by simp only [List.getElem?_toArray, List.getElem?_cons_succ, List.getElem?_cons_zero]; rfl) (by kernel_rfl) (fun _ _ _ _ _ h => h) ⟨(by rfl), (by intro c h; cases h), ?_⟩ hHeld ?_
                    rotate_left
                    focus (intro wS hSw; (try replace hSw := HSF.out wS hSw); (try dsimp only at hSw); go_simp; (try with_reducible rfl))
                    (try simp only [Act.put, List.setIfInBounds_toArray, List.set_cons_zero, List.set_cons_succ])
                    refine wpAnyG_take 5 (v := ?_) (fun _ => trivial) (by simp only [List.getElem?_toArray, List.getElem?_cons_succ, List.getElem?_cons_zero]; rfl) (by kernel_rfl) (fun _ _ _ _ _ h => h) ⟨(by rfl), (by intro c h; cases h), ?_⟩ hHeld ?_
                    rotate_left
                    focus (intro wS hSw; (try replace hSw := HSF.out wS hSw); (try dsimp only at hSw); go_simp; (try with_reducible rfl))
                    (try simp only [Act.put, List.setIfInBounds_toArray, List.set_cons_zero, List.set_cons_succ])
                    refine wpAnyG_pure 6 (v := ?_) (fun _ => trivial) (by simp only [List.getElem?_toArray, List.getElem?_cons_succ, List.getElem?_cons_zero]; rfl) (by kernel_rfl) (fun _ _ _ _ _ h => h) ⟨(by rfl), (by intro c h; cases h), ?_⟩ hHeld ?_
                    rotate_left
                    focus (intro wS hSw; (try replace hSw := HSF.out wS hSw); (try dsimp only at hSw); go_simp; (try with_reducible rfl))
                    (try simp only [Act.put, List.setIfInBounds_toArray, List.set_cons_zero, List.set_cons_succ])
                    refine wpAnyS_ready [7] (by kernel_rfl) (by simp) (AllReadyS.cons (by simp only [List.getElem?_toArray, List.getElem?_cons_succ, List.getElem?_cons_zero]; rfl) rfl (fun K hK => ?_) AllReadyS.nil)
                    go_simp
                    have HUs := hid (HUe.out.set m hsn.out)
                    have b1 : b9 ≠ gF := by have := HUe.out.hF; omega
                    have b2 : gL ≠ gF := Ne.symm HUe.out.ne
                    have s1 : (we.setCell ⟨gF, m, none⟩ (.bool true)).cell? ⟨b9, o9 + (k), none⟩ = some (.int .i64 (m : Nat)) := (cell_kept (p := ⟨b9, o9 + k, none⟩) (Below.heap_setCell we ⟨gF, m, none⟩ (.bool true) b9 (by simpa using b1))).trans g1e
                    have s2 : (we.setCell ⟨gF, m, none⟩ (.bool true)).cell? ⟨gL, 0, none⟩ = some (.slice (some ⟨gF, 0, none⟩) n n) := by have := HUs.out.bl.cell 0; simpa using this
                    refine hK.out _ _ ⟨s1, s2⟩ ?_
                    (try simp only [Act.put, List.setIfInBounds_toArray, List.set_cons_zero, List.set_cons_succ])
                    clear hK K hHeld HSF
                    refine wpAnyS_done (by kernel_rfl) ?_
                    go_wp2_with fail
                    go_roundw
                    case rel => exact ⟨(k) + 1, by omega, by go_num, HUs.out, hst⟩
                    case measure => simp [intOf]; omega
                · obtain ⟨j, hj⟩ : ∃ j, j = k - 1 := ⟨_, rfl⟩
                  have hwj : wrap64 ((k : Int) - 1) = (j : Int) := by rw [wrap64_in _ (by omega)]; omega
                  have hwj2 : IntKind.i64.wrap ((k : Int) - 1) = (j : Int) := by rw [i64_in _ (by omega)]; omega
                  have hjl : (j : Int) < xs.length := by omega
                  have hmx : max (j : Int) 0 = j := by omega
                  have hkd : decide ((0 : Int) < (k : Int)) = true := decide_eq_true (by omega)
                  have hke : decide (0 < k) = true := decide_eq_true (by omega)
                  have gp1 := gp.out (by omega)
                  have hk1 := hid (show 0 < k by omega)
                  simp only [← hj] at gp1 hnl hsc
                  obtain ⟨p, hp⟩ : ∃ p, p = xs[j] := ⟨_, rfl⟩
                  rw [← hp] at gp1
                  simp only [← hp] at hnl hsc
                  clear hp gp hj hk0
                  by_cases hpv : p < (m : Int)
                  · have hst := hid (hsc.out ⟨by omega, by omega⟩ (fun _ => hpv))
                    have hpv' : ¬ (m : Int) ≤ p := by omega
                    as_aux_lemma =>
                      go_upto_region 11 with fail
                      refine wpIn_wide.1 (wpIn_region_S (n := 0) (fun wq => wq.cell? ⟨b9, o9 + k, none⟩ = some (.int .i64 (m : Nat)) ∧ wq.cell? ⟨b9, o9 + j, none⟩ = some (.int .i64 p)) [] (by kernel_rfl) (⟨g1, gp1⟩) (fun hHeld => ?_))
                      have HSF := hid (fun (wq : World) (hq : wq.cell? ⟨b9, o9 + k, none⟩ = some (.int .i64 (m : Nat)) ∧ wq.cell? ⟨b9, o9 + j, none⟩ = some (.int .i64 p)) => hq)
                      have HUd := hid (QW.drew HU.out)
                      have rrd := rr.drew
                      clear r0 r1 fr0 fr1 lR l0 l1 lL HU
                      have g1 : wr.drew.cell? ⟨b9, o9 + (k), none⟩ = some (.int .i64 (m : Nat)) := g1
                      generalize wr.drew = wd at *
                      have HU := HUd
                      have r0 := rrd.cell 0; have r1 := rrd.cell 1
                      have fr0 := rrd.frozen 0; have fr1 := rrd.frozen 1; have lR := rrd.lt
                      have l0 := HU.out.bl.cell 0; have l1 := HU.out.bl.cell 1; have lL := HU.out.bl.lt
                      simp at l0 l1 r0 r1
                      clear rrd HUd
                      refine wpAnyG_pure 0 (v := ?_) (fun _ => trivial) (by simp only [List.getElem?_toArray, List.getElem?_cons_succ, List.getElem?_cons_zero]; rfl) (by kernel_rfl) (fun _ _ _ _ _ h => h) ⟨(by rfl), (by intro c h; cases h), ?_⟩ hHeld ?_
                      rotate_left
                      focus (intro wS hSw; (try replace hSw := HSF.out wS hSw); (try dsimp only at hSw); go_simp; (try with_reducible rfl))
                      (try simp only [Act.put, List.setIfInBounds_toArray, List.set_cons_zero, List.set_cons_succ])
                      refine wpAnyG_pure 1 (v := ?_) (fun _ => trivial) (by simp only [List.getElem?_toArray, List.getElem?_cons_succ, List.getElem?_cons_zero]; rfl) (by kernel_rfl) (fun _ _ _ _ _ h => h) ⟨(by rfl), (by intro c h; cases h), ?_⟩ hHeld ?_
                      rotate_left
                      focus (intro wS hSw; (try replace hSw := HSF.out wS hSw); (try dsimp only at hSw); go_simp; (try with_reducible rfl))
                      (try simp only [Act.put, List.setIfInBounds_toArray, List.set_cons_zero, List.set_cons_succ])
                      refine wpAnyG_pure 2 (v := ?_) (fun _ => trivial) (by simp only [List.getElem?_toArray, List.getElem?_cons_succ, List.getElem?_cons_zero]; rfl) (by kernel_rfl) (fun _ _ _ _ _ h => h) ⟨(by rfl), (by intro c h; cases h), ?_⟩ hHeld ?_
                      rotate_left
                      focus (intro wS hSw; (try replace hSw := HSF.out wS hSw); (try dsimp only at hSw); go_simp; (try with_reducible rfl))
                      (try simp only [Act.put, List.setIfInBounds_toArray, List.set_cons_zero, List.set_cons_succ])
                      refine wpAnyG_take 3 (v := ?_) (fun _ => trivial) (by simp only [List.getElem?_toArray, List.getElem?_cons_succ, List.getElem?_cons_zero]; rfl) (by kernel_rfl) (fun _ _ _ _ _ h => h) ⟨(by rfl), (by intro c h; cases h), ?_⟩ hHeld ?_
                      rotate_left
                      focus (intro wS hSw; (try replace hSw := HSF.out wS hSw); (try dsimp only at hSw); go_simp; (try with_reducible rfl))
                      (try simp only [Act.put, List.setIfInBounds_toArray, List.set_cons_zero, List.set_cons_succ])
                      refine wpAnyG_pure 4 (v := ?_) (fun _ => trivial) (by simp only [List.getElem?_toArray, List.getElem?_cons_succ, List.getElem?_cons_zero]; rfl) (by kernel_rfl) (fun _ _ _ _ _ h => h) ⟨(by rfl), (by intro c h; cases h), ?_⟩ hHeld ?_
                      rotate_left
                      focus (intro wS hSw; (try replace hSw := HSF.out wS hSw); (try dsimp only at hSw); go_simp; (try with_reducible rfl))
                      (try simp only [Act.put, List.setIfInBounds_toArray, List.set_cons_zero, List.set_cons_succ])
                      refine wpAnyG_pure 5 (v := ?_) (fun _ => trivial) (by simp only [List.getElem?_toArray, List.getElem?_cons_succ, List.getElem?_cons_zero]; rfl) (by kernel_rfl) (fun _ _ _ _ _ h => h) ⟨(by rfl), (by intro c h; cases h), ?_⟩ hHeld ?_
                      rotate_left
                      focus (intro wS hSw; (try replace hSw := HSF.out wS hSw); (try dsimp only at hSw); go_simp; (try with_reducible rfl))
                      (try simp only [Act.put, List.setIfInBounds_toArray, List.set_cons_zero, List.set_cons_succ])
                      refine wpAnyG_pure 6 (v := ?_) (fun _ => trivial) (by simp only [List.getElem?_toArray, List.getElem?_cons_succ, List.getElem?_cons_zero]; rfl) (by kernel_rfl) (fun _ _ _ _ _ h => h) ⟨(by rfl), (by intro c h; cases h), ?_⟩ hHeld ?_
                      rotate_left
                      focus (intro wS hSw; (try replace hSw := HSF.out wS hSw); (try dsimp only at hSw); go_simp; (try with_reducible rfl))
                      (try simp only [Act.put, List.setIfInBounds_toArray, List.set_cons_zero, List.set_cons_succ])
                      refine wpAnyG_pure 7 (v := ?_) (fun _ => trivial) (by simp only [List.getElem?_toArray, List.getElem?_cons_succ, List.getElem?_cons_zero]; rfl) (by kernel_rfl) (fun _ _ _ _ _ h => h) ⟨(by rfl), (by intro c h; cases h), ?_⟩ hHeld ?_
                      rotate_left
                      focus (intro wS hSw; (try replace hSw := HSF.out wS hSw); (try dsimp only at hSw); go_simp; (try with_reducible rfl))
                      (try simp only [Act.put, List.setIfInBounds_toArray, List.set_cons_zero, List.set_cons_succ])
                      refine wpAnyG_pure 8 (v := ?_) (fun _ => trivial) (by simp only [List.getElem?_toArray, List.getElem?_cons_succ, List.getElem?_cons_zero]; rfl) (by kernel_rfl) (fun _ _ _ _ _ h => h) ⟨(by rfl), (by intro c h; cases h), ?_⟩ hHeld ?_
                      rotate_left
                      focus (intro wS hSw; (try replace hSw := HSF.out wS hSw); (try dsimp only at hSw); go_simp; (try with_reducible rfl))
                      (try simp only [Act.put, List.setIfInBounds_toArray, List.set_cons_zero, List.set_cons_succ])
                      refine wpAnyG_take 9 (v := ?_) (fun _ => trivial) (by simp only [List.getElem?_toArray, List.getElem?_cons_succ, List.getElem?_cons_zero]; rfl) (by kernel_rfl) (fun _ _ _ _ _ h => h) ⟨(by rfl), (by intro c h; cases h), ?_⟩ hHeld ?_
                      rotate_left
                      focus (intro wS hSw; (try replace hSw := HSF.out wS hSw); (try dsimp only at hSw); go_simp; (try with_reducible rfl))
                      (try simp only [Act.put, List.setIfInBounds_toArray, List.set_cons_zero, List.set_cons_succ])
                      refine wpAnyG_pure 10 (v := ?_) (fun _ => trivial) (by simp only [List.getElem?_toArray, List.getElem?_cons_succ, List.getElem?_cons_zero]; rfl) (by kernel_rfl) (fun _ _ _ _ _ h => h) ⟨(by rfl), (by intro c h; cases h), ?_⟩ hHeld ?_
                      rotate_left
                      focus (intro wS hSw; (try replace hSw := HSF.out wS hSw); (try dsimp only at hSw); go_simp; (try with_reducible rfl))
                      (try simp only [Act.put, List.setIfInBounds_toArray, List.set_cons_zero, List.set_cons_succ])
                      refine wpAnyG_pure 11 (v := ?_) (fun _ => trivial) (by simp only [List.getElem?_toArray, List.getElem?_cons_succ, List.getElem?_cons_zero]; rfl) (by kernel_rfl) (fun _ _ _ _ _ h => h) ⟨(by rfl), (by intro c h; cases h), ?_⟩ hHeld ?_
                      rotate_left
                      focus (intro wS hSw; (try replace hSw := HSF.out wS hSw); (try dsimp only at hSw); go_simp; (try with_reducible rfl))
                      (try simp only [Act.put, List.setIfInBounds_toArray, List.set_cons_zero, List.set_cons_succ])
                      refine wpAnyG_pure 12 (v := ?_) (fun _ => trivial) (by simp only [List.getElem?_toArray, List.getElem?_cons_succ, List.getElem?_cons_zero]; rfl) (by kernel_rfl) (fun _ _ _ _ _ h => h) ⟨(by rfl), (by intro c h; cases h), ?_⟩ hHeld ?_
                      rotate_left
                      focus (intro wS hSw; (try replace hSw := HSF.out wS hSw); (try dsimp only at hSw); go_simp; (try with_reducible rfl))
                      (try simp only [Act.put, List.setIfInBounds_toArray, List.set_cons_zero, List.set_cons_succ])
                      refine wpAnyG_pure 13 (v := ?_) (fun _ => trivial) (by simp only [List.getElem?_toArray, List.getElem?_cons_succ, List.getElem?_cons_zero]; rfl) (by kernel_rfl) (fun _ _ _ _ _ h => h) ⟨(by rfl), (by intro c h; cases h), ?_⟩ hHeld ?_
                      rotate_left
                      focus (intro wS hSw; (try replace hSw := HSF.out wS hSw); (try dsimp only at hSw); go_simp; (try with_reducible rfl))
                      (try simp only [Act.put, List.setIfInBounds_toArray, List.set_cons_zero, List.set_cons_succ])
                      refine wpAnyG_pure 14 (v := ?_) (fun _ => trivial) (by simp only [List.getElem?_toArray, List.getElem?_cons_succ, List.getElem?_cons_zero]; rfl) (by kernel_rfl) (fun _ _ _ _ _ h => h) ⟨(by rfl), (by intro c h; cases h), ?_⟩ hHeld ?_
                      rotate_left
                      focus (intro wS hSw; (try replace hSw := HSF.out wS hSw); (try dsimp only at hSw); go_simp; (try with_reducible rfl))
                      (try simp only [Act.put, List.setIfInBounds_toArray, List.set_cons_zero, List.set_cons_succ])
                      refine wpAnyG_pure 15 (v := ?_) (fun _ => trivial) (by simp only [List.getElem?_toArray, List.getElem?_cons_succ, List.getElem?_cons_zero]; rfl) (by kernel_rfl) (fun _ _ _ _ _ h => h) ⟨(by rfl), (by intro c h; cases h), ?_⟩ hHeld ?_
                      rotate_left
                      focus (intro wS hSw; (try replace hSw := HSF.out wS hSw); (try dsimp only at hSw); go_simp; (try with_reducible rfl))
                      (try simp only [Act.put, List.setIfInBounds_toArray, List.set_cons_zero, List.set_cons_succ])
                      refine wpAnyG_pure 16 (v := ?_) (fun _ => trivial) (by simp only [List.getElem?_toArray, List.getElem?_cons_succ, List.getElem?_cons_zero]; rfl) (by kernel_rfl) (fun _ _ _ _ _ h => h) ⟨(by rfl), (by intro c h; cases h), ?_⟩ hHeld ?_
                      rotate_left
                      focus (intro wS hSw; (try replace hSw := HSF.out wS hSw); (try dsimp only at hSw); go_simp; (try with_reducible rfl))
                      (try simp only [Act.put, List.setIfInBounds_toArray, List.set_cons_zero, List.set_cons_succ])
                      refine wpAnyG_pure 17 (v := ?_) (fun _ => trivial) (by simp only [List.getElem?_toArray, List.getElem?_cons_succ, List.getElem?_cons_zero]; rfl) (by kernel_rfl) (fun _ _ _ _ _ h => h) ⟨(by rfl), (by intro c h; cases h), ?_⟩ hHeld ?_
                      rotate_left
                      focus (intro wS hSw; (try replace hSw := HSF.out wS hSw); (try dsimp only at hSw); go_simp; (try with_reducible rfl))
                      (try simp only [Act.put, List.setIfInBounds_toArray, List.set_cons_zero, List.set_cons_succ])
                      refine wpAnyG_pure 18 (v := ?_) (fun _ => trivial) (by simp only [List.getElem?_toArray, List.getElem?_cons_succ, List.getElem?_cons_zero]; rfl) (by kernel_rfl) (fun _ _ _ _ _ h => h) ⟨(by rfl), (by intro c h; cases h), ?_⟩ hHeld ?_
                      rotate_left
                      focus (intro wS hSw; (try replace hSw := HSF.out wS hSw); (try dsimp only at hSw); go_simp; (try with_reducible rfl))
                      (try simp only [Act.put, List.setIfInBounds_toArray, List.set_cons_zero, List.set_cons_succ])
                      refine wpAnyG_pure 19 (v := ?_) (fun _ => trivial) (by simp only [List.getElem?_toArray, List.getElem?_cons_succ, List.getElem?_cons_zero]; rfl) (by kernel_rfl) (fun _ _ _ _ _ h => h) ⟨(by rfl), (by intro c h; cases h), ?_⟩ hHeld ?_
                      rotate_left
                      focus (intro wS hSw; (try replace hSw := HSF.out wS hSw); (try dsimp only at hSw); go_simp; (try with_reducible rfl))
                      (try simp only [Act.put, List.setIfInBounds_toArray, List.set_cons_zero, List.set_cons_succ])
                      refine wpAnyG_take 20 (v := ?_) (fun _ => trivial) (by simp only [List.getElem?_toArray, List.getElem?_cons_succ, List.getElem?_cons_zero]; rfl) (by kernel_rfl) (fun _ _ _ _ _ h => h) ⟨(by rfl), (by intro c h; cases h), ?_⟩ hHeld ?_
                      rotate_left
                      focus (intro wS hSw; (try replace hSw := HSF.out wS hSw); (try dsimp only at hSw); go_simp; (try with_reducible rfl))
                      (try simp only [Act.put, List.setIfInBounds_toArray, List.set_cons_zero, List.set_cons_succ])
                      refine wpAnyG_pure 21 (v := ?_) (fun _ => trivial) (by simp only [List.getElem?_toArray, List.getElem?_cons_succ, List.getElem?_cons_zero]; rfl) (by kernel_rfl) (fun _ _ _ _ _ h => h) ⟨(by rfl), (by intro c h; cases h), ?_⟩ hHeld ?_
                      rotate_left
                      focus (intro wS hSw; (try replace hSw := HSF.out wS hSw); (try dsimp only at hSw); go_simp; (try with_reducible rfl))
                      (try simp only [Act.put, List.setIfInBounds_toArray, List.set_cons_zero, List.set_cons_succ])
                      refine wpAnyG_pure 22 (v := ?_) (fun _ => trivial) (by simp only [List.getElem?_toArray, List.getElem?_cons_succ, List.getElem?_cons_zero]; rfl) (by kernel_rfl) (fun _ _ _ _ _ h => h) ⟨(by rfl), (by intro c h; cases h), ?_⟩ hHeld ?_
                      rotate_left
                      focus (intro wS hSw; (try replace hSw := HSF.out wS hSw); (try dsimp only at hSw); go_simp; (try with_reducible rfl))
                      (try simp only [Act.put, List.setIfInBounds_toArray, List.set_cons_zero, List.set_cons_succ])
                      refine wpAnyG_pure 23 (v := ?_) (fun _ => trivial) (by simp only [List.getElem?_toArray, List.getElem?_cons_succ, List.getElem?_cons_zero]; rfl) (by kernel_rfl) (fun _ _ _ _ _ h => h) ⟨(by rfl), (by intro c h; cases h), ?_⟩ hHeld ?_
                      rotate_left
                      focus (intro wS hSw; (try replace hSw := HSF.out wS hSw); (try dsimp only at hSw); go_simp; (try with_reducible rfl))
                      (try simp only [Act.put, List.setIfInBounds_toArray, List.set_cons_zero, List.set_cons_succ])
                      refine wpAnyG_pure 24 (v := ?_) (fun _ => trivial) (by simp only [List.getElem?_toArray, List.getElem?_cons_succ, List.getElem?_cons_zero]; rfl) (by kernel_rfl) (fun _ _ _ _ _ h => h) ⟨(by rfl), (by intro c h; cases h), ?_⟩ hHeld ?_
                      rotate_left
                      focus (intro wS hSw; (try replace hSw := HSF.out wS hSw); (try dsimp only at hSw); go_simp; (try with_reducible rfl))
                      (try simp only [Act.put, List.setIfInBounds_toArray, List.set_cons_zero, List.set_cons_succ])
                      refine wpAnyG_pure 25 (v := ?_) (fun _ => trivial) (by simp only [List.getElem?_toArray, List.getElem?_cons_succ, List.getElem?_cons_zero]; rfl) (by kernel_rfl) (fun _ _ _ _ _ h => h) ⟨(by rfl), (by intro c h; cases h), ?_⟩ hHeld ?_
                      rotate_left
                      focus (intro wS hSw; (try replace hSw := HSF.out wS hSw); (try dsimp only at hSw); go_simp; (try with_reducible rfl))
                      (try simp only [Act.put, List.setIfInBounds_toArray, List.set_cons_zero, List.set_cons_succ])
                      refine wpAnyG_take 26 (v := ?_) (fun _ => trivial) (by simp only [List.getElem?_toArray, List.getElem?_cons_succ, List.getElem?_cons_zero]; rfl) (by kernel_rfl) (fun _ _ _ _ _ h => h) ⟨(by rfl), (by intro c h; cases h), ?_⟩ hHeld ?_
                      rotate_left
                      focus (intro wS hSw; (try replace hSw := HSF.out wS hSw); (try dsimp only at hSw); go_simp; (try with_reducible rfl))
                      (try simp only [Act.put, List.setIfInBounds_toArray, List.set_cons_zero, List.set_cons_succ])
                      refine wpAnyG_pure 27 (v := ?_) (fun _ => trivial) (by simp only [List.getElem?_toArray, List.getElem?_cons_succ, List.getElem?_cons_zero]; rfl) (by kernel_rfl) (fun _ _ _ _ _ h => h) ⟨(by rfl), (by intro c h; cases h), ?_⟩ hHeld ?_
                      rotate_left
                      focus (intro wS hSw; (try replace hSw := HSF.out wS hSw); (try dsimp only at hSw); go_simp; (try with_reducible rfl))
                      (try simp only [Act.put, List.setIfInBounds_toArray, List.set_cons_zero, List.set_cons_succ])
                      refine wpAnyG_pure 28 (v := ?_) (fun _ => trivial) (by simp only [List.getElem?_toArray, List.getElem?_cons_succ, List.getElem?_cons_zero]; rfl) (by kernel_rfl) (fun _ _ _ _ _ h => h) ⟨(by rfl), (by intro c h; cases h), ?_⟩ hHeld ?_
                      rotate_left
                      focus (intro wS hSw; (try replace hSw := HSF.out wS hSw); (try dsimp only at hSw); go_simp; (try with_reducible rfl))
                      (try simp only [Act.put, List.setIfInBounds_toArray, List.set_cons_zero, List.set_cons_succ])
                      refine wpAnyG_pure 29 (v := ?_) (fun _ => trivial) (by simp only [List.getElem?_toArray, List.getElem?_cons_succ, List.getElem?_cons_zero]; rfl) (by kernel_rfl) (fun _ _ _ _ _ h => h) ⟨(by rfl), (by intro c h; cases h), ?_⟩ hHeld ?_
                      rotate_left
                      focus (intro wS hSw; (try replace hSw := HSF.out wS hSw); (try dsimp only at hSw); go_simp; (try with_reducible rfl))
                      (try simp only [Act.put, List.setIfInBounds_toArray, List.set_cons_zero, List.set_cons_succ])
                      refine wpAnyS_done (by kernel_rfl) ?_
                      clear hHeld HSF
                      have hcf := HU.out.bf.cell m
                      have hff := HU.out.bf.frozen m
                      have hlF := HU.out.bf.lt
                      have hmf : m < (fullOf n (xs.take (k))).length := by rw [Hfl.out]; exact hxN
                      rw [List.getElem?_toArray, List.getElem?_map, List.getElem?_eq_getElem hmf] at hcf
                      simp only [Option.map_some] at hcf
                      generalize (fullOf n (List.take (k) xs))[m] = y at hcf
                      have hl0 := l0
                      clear hmf r0 r1 fr0 fr1 lR l1
                      go_upto_region 13 with fail
                      refine wpIn_wide.1 (wpIn_region_S (n := 0) (fun wq => wq.cell? ⟨b9, o9 + (k), none⟩ = some (.int .i64 (m : Nat)) ∧ wq.cell? ⟨gL, 0, none⟩ = some (.slice (some ⟨gF, 0, none⟩) n n)) [] (by kernel_rfl) ⟨g1, l0⟩ (fun hHeld => ?_))
                      have HSF := hid (fun (wq : World) (hq : wq.cell? ⟨b9, o9 + (k), none⟩ = some (.int .i64 (m : Nat)) ∧ wq.cell? ⟨gL, 0, none⟩ = some (.slice (some ⟨gF, 0, none⟩) n n)) => hq)
                      have HUe := hid (QW.drew HU.out)
                      have g1e : wd.drew.cell? ⟨b9, o9 + (k), none⟩ = some (.int .i64 (m : Nat)) := g1
                      have hce : wd.drew.cell? ⟨gF, m, none⟩ = some (.bool y) := hcf
                      have hfe : wd.drew.frozen? ⟨gF, m, none⟩ = false := hff
                      have hle : gF < wd.drew.heap.size := hlF
                      clear hcf hff hlF l0 lL HU g1
                      generalize wd.drew = we at *
                      refine wpAnyG_pure 0 (v := ?_) (fun _ => trivial) (by simp only [List.getElem?_toArray, List.getElem?_cons_succ, List.getElem?_cons_zero]; rfl) (by kernel_rfl) (fun _ _ _ _ _ h => h) ⟨(by rfl), (by intro c h; cases h), ?_⟩ hHeld ?_
                      rotate_left
                      focus (intro wS hSw; (try replace hSw := HSF.out wS hSw); (try dsimp only at hSw); go_simp; (try with_reducible rfl))
                      (try simp only [Act.put, List.setIfInBounds_toArray, List.set_cons_zero, List.set_cons_succ])
                      refine wpAnyG_take 1 (v := ?_) (fun _ => trivial) (by simp only [List.getElem?_toArray, List.getElem?_cons_succ, List.getElem?_cons_zero]; rfl) (by kernel_rfl) (fun _ _ _ _ _ h => h) ⟨(by rfl), (by intro c h; cases h), ?_⟩ hHeld ?_
                      rotate_left
                      focus (intro wS hSw; (try replace hSw := HSF.out wS hSw); (try dsimp only at hSw); go_simp; (try with_reducible rfl))
                      (try simp only [Act.put, List.setIfInBounds_toArray, List.set_cons_zero, List.set_cons_succ])
                      refine wpAnyG_pure 2 (v := ?_) (fun _ => trivial) (by simp only [List.getElem?_toArray, List.getElem?_cons_succ, List.getElem?_cons_zero]; rfl) (by kernel_rfl) (fun _ _ _ _ _ h => h) ⟨(by rfl), (by intro c h; cases h), ?_⟩ hHeld ?_
                      rotate_left
                      focus (intro wS hSw; (try replace hSw := HSF.out wS hSw); (try dsimp only at hSw); go_simp; (try with_reducible rfl))
                      (try simp only [Act.put, List.setIfInBounds_toArray, List.set_cons_zero, List.set_cons_succ])
                      refine wpAnyG_pure 3 (v := ?_) (fun _ => trivial) (by simp only [List.getElem?_toArray, List.getElem?_cons_succ, List.getElem?_cons_zero]; rfl) (by kernel_rfl) (fun _ _ _ _ _ h => h) ⟨(by rfl), (by intro c h; cases h), ?_⟩ hHeld ?_
                      rotate_left
                      focus (intro wS hSw; (try replace hSw := HSF.out wS hSw); (try dsimp only at hSw); go_simp; (try with_reducible rfl))
                      (try simp only [Act.put, List.setIfInBounds_toArray, List.set_cons_zero, List.set_cons_succ])
                      refine wpAnyG_pure 4 (v := ?_) (fun _ => trivial) (by simp only [List.getElem?_toArray, List.getElem?_cons_succ, List.getElem?_cons_zero]; rfl) (by kernel_rfl) (fun _ _ _ _ _ h => h) ⟨(by rfl), (by intro c h; cases h), ?_⟩ hHeld ?_
                      rotate_left
                      focus (intro wS hSw; (try replace hSw := HSF.out wS hSw); (try dsimp only at hSw); go_simp; (try with_reducible rfl))
                      (try simp only [Act.put, List.setIfInBounds_toArray, List.set_cons_zero, List.set_cons_succ])
                      refine wpAnyG_take 5 (v := ?_) (fun _ => trivial) (by simp only [List.getElem?_toArray, List.getElem?_cons_succ, List.getElem?_cons_zero]; rfl) (by kernel_rfl) (fun _ _ _ _ _ h => h) ⟨(by rfl), (by intro c h; cases h), ?_⟩ hHeld ?_
                      rotate_left
                      focus (intro wS hSw; (try replace hSw := HSF.out wS hSw); (try dsimp only at hSw); go_simp; (try with_reducible rfl))
                      (try simp only [Act.put, List.setIfInBounds_toArray, List.set_cons_zero, List.set_cons_succ])
                      refine wpAnyG_pure 6 (v := ?_) (fun _ => trivial) (by simp only [List.getElem?_toArray, List.getElem?_cons_succ, List.getElem?_cons_zero]; rfl) (by kernel_rfl) (fun _ _ _ _ _ h => h) ⟨(by rfl), (by intro c h; cases h), ?_⟩ hHeld ?_
                      rotate_left
                      focus (intro wS hSw; (try replace hSw := HSF.out wS hSw); (try dsimp only at hSw); go_simp; (try with_reducible rfl))
                      (try simp only [Act.put, List.setIfInBounds_toArray, List.set_cons_zero, List.set_cons_succ])
                      refine wpAnyS_ready [7] (by kernel_rfl) (by simp) (AllReadyS.cons (by simp only [List.getElem?_toArray, List.getElem?_cons_succ, List.getElem?_cons_zero]; rfl) rfl (fun K hK => ?_) AllReadyS.nil)
                      go_simp
                      have HUs := hid (HUe.out.set m hsn.out)
                      have b1 : b9 ≠ gF := by have := HUe.out.hF; omega
                      have b2 : gL ≠ gF := Ne.symm HUe.out.ne
                      have s1 : (we.setCell ⟨gF, m, none⟩ (.bool true)).cell? ⟨b9, o9 + (k), none⟩ = some (.int .i64 (m : Nat)) := (cell_kept (p := ⟨b9, o9 + k, none⟩) (Below.heap_setCell we ⟨gF, m, none⟩ (.bool true) b9 (by simpa using b1))).trans g1e
                      have s2 : (we.setCell ⟨gF, m, none⟩ (.bool true)).cell? ⟨gL, 0, none⟩ = some (.slice (some ⟨gF, 0, none⟩) n n) := by have := HUs.out.bl.cell 0; simpa using this
                      refine hK.out _ _ ⟨s1, s2⟩ ?_
                      (try simp only [Act.put, List.setIfInBounds_toArray, List.set_cons_zero, List.set_cons_succ])
                      clear hK K hHeld HSF
                      refine wpAnyS_done (by kernel_rfl) ?_
                      go_wp2_with fail
                      go_roundw
                      case rel => exact ⟨(k) + 1, by omega, by go_num, HUs.out, hst⟩
                      case measure => simp [intOf]; omega
                  · have hr := hid (HR.out.1 (.inr (.inr (.inr (.inr (.inl (hnl.out hk1.out hpv)))))))
                    have hpv' : (m : Int) ≤ p := by omega
                    as_aux_lemma =>
                      go_upto_region 11 with fail
                      refine wpIn_wide.1 (wpIn_region_S (n := 0) (fun wq => wq.cell? ⟨b9, o9 + k, none⟩ = some (.int .i64 (m : Nat)) ∧ wq.cell? ⟨b9, o9 + j, none⟩ = some (.int .i64 p)) [] (by kernel_rfl) (⟨g1, gp1⟩) (fun hHeld => ?_))
                      have HSF := hid (fun (wq : World) (hq : wq.cell? ⟨b9, o9 + k, none⟩ = some (.int .i64 (m : Nat)) ∧ wq.cell? ⟨b9, o9 + j, none⟩ = some (.int .i64 p)) => hq)
                      have HUd := hid (QW.drew HU.out)
                      have rrd := rr.drew
                      clear r0 r1 fr0 fr1 lR l0 l1 lL HU
                      have g1 : wr.drew.cell? ⟨b9, o9 + (k), none⟩ = some (.int .i64 (m : Nat)) := g1
                      generalize wr.drew = wd at *
                      have HU := HUd
                      have r0 := rrd.cell 0; have r1 := rrd.cell 1
                      have fr0 := rrd.frozen 0; have fr1 := rrd.frozen 1; have lR := rrd.lt
                      have l0 := HU.out.bl.cell 0; have l1 := HU.out.bl.cell 1; have lL := HU.out.bl.lt
                      simp at l0 l1 r0 r1
                      clear rrd HUd
                      refine wpAnyG_pure 0 (v := ?_) (fun _ => trivial) (by simp only [List.getElem?_toArray, List.getElem?_cons_succ, List.getElem?_cons_zero]; rfl) (by kernel_rfl) (fun _ _ _ _ _ h => h) ⟨(by rfl), (by intro c h; cases h), ?_⟩ hHeld ?_
                      rotate_left
                      focus (intro wS hSw; (try replace hSw := HSF.out wS hSw); (try dsimp only at hSw); go_simp; (try with_reducible rfl))
                      (try simp only [Act.put, List.setIfInBounds_toArray, List.set_cons_zero, List.set_cons_succ])
                      refine wpAnyG_pure 1 (v := ?_) (fun _ => trivial) (by simp only [List.getElem?_toArray, List.getElem?_cons_succ, List.getElem?_cons_zero]; rfl) (by kernel_rfl) (fun _ _ _ _ _ h => h) ⟨(by rfl), (by intro c h; cases h), ?_⟩ hHeld ?_
                      rotate_left
                      focus (intro wS hSw; (try replace hSw := HSF.out wS hSw); (try dsimp only at hSw); go_simp; (try with_reducible rfl))
                      (try simp only [Act.put, List.setIfInBounds_toArray, List.set_cons_zero, List.set_cons_succ])
                      refine wpAnyG_pure 2 (v := ?_) (fun _ => trivial) (by simp only [List.getElem?_toArray, List.getElem?_cons_succ, List.getElem?_cons_zero]; rfl) (by kernel_rfl) (fun _ _ _ _ _ h => h) ⟨(by rfl), (by intro c h; cases h), ?_⟩ hHeld ?_
                      rotate_left
                      focus (intro wS hSw; (try replace hSw := HSF.out wS hSw); (try dsimp only at hSw); go_simp; (try with_reducible rfl))
                      (try simp only [Act.put, List.setIfInBounds_toArray, List.set_cons_zero, List.set_cons_succ])
                      refine wpAnyG_take 3 (v := ?_) (fun _ => trivial) (by simp only [List.getElem?_toArray, List.getElem?_cons_succ, List.getElem?_cons_zero]; rfl) (by kernel_rfl) (fun _ _ _ _ _ h => h) ⟨(by rfl), (by intro c h; cases h), ?_⟩ hHeld ?_
                      rotate_left
                      focus (intro wS hSw; (try replace hSw := HSF.out wS hSw); (try dsimp only at hSw); go_simp; (try with_reducible rfl))
                      (try simp only [Act.put, List.setIfInBounds_toArray, List.set_cons_zero, List.set_cons_succ])
                      refine wpAnyG_pure 4 (v := ?_) (fun _ => trivial) (by simp only [List.getElem?_toArray, List.getElem?_cons_succ, List.getElem?_cons_zero]; rfl) (by kernel_rfl) (fun _ _ _ _ _ h => h) ⟨(by rfl), (by intro c h; cases h), ?_⟩ hHeld ?_
                      rotate_left
                      focus (intro wS hSw; (try replace hSw := HSF.out wS hSw); (try dsimp only at hSw); go_simp; (try with_reducible rfl))
                      (try simp only [Act.put, List.setIfInBounds_toArray, List.set_cons_zero, List.set_cons_succ])
                      refine wpAnyG_pure 5 (v := ?_) (fun _ => trivial) (by simp only [List.getElem?_toArray, List.getElem?_cons_succ, List.getElem?_cons_zero]; rfl) (by kernel_rfl) (fun _ _ _ _ _ h => h) ⟨(by rfl), (by intro c h; cases h), ?_⟩ hHeld ?_
                      rotate_left
                      focus (intro wS hSw; (try replace hSw := HSF.out wS hSw); (try dsimp only at hSw); go_simp; (try with_reducible rfl))
                      (try simp only [Act.put, List.setIfInBounds_toArray, List.set_cons_zero, List.set_cons_succ])
                      refine wpAnyG_pure 6 (v := ?_) (fun _ => trivial) (by simp only [List.getElem?_toArray, List.getElem?_cons_succ, List.getElem?_cons_zero]; rfl) (by kernel_rfl) (fun _ _ _ _ _ h => h) ⟨(by rfl), (by intro c h; cases h), ?_⟩ hHeld ?_
                      rotate_left
                      focus (intro wS hSw; (try replace hSw := HSF.out wS hSw); (try dsimp only at hSw); go_simp; (try with_reducible rfl))
                      (try simp only [Act.put, List.setIfInBounds_toArray, List.set_cons_zero, List.set_cons_succ])
                      refine wpAnyG_pure 7 (v := ?_) (fun _ => trivial) (by simp only [List.getElem?_toArray, List.getElem?_cons_succ, List.getElem?_cons_zero]; rfl) (by kernel_rfl) (fun _ _ _ _ _ h => h) ⟨(by rfl), (by intro c h; cases h), ?_⟩ hHeld ?_
                      rotate_left
                      focus (intro wS hSw; (try replace hSw := HSF.out wS hSw); (try dsimp only at hSw); go_simp; (try with_reducible rfl))
                      (try simp only [Act.put, List.setIfInBounds_toArray, List.set_cons_zero, List.set_cons_succ])
                      refine wpAnyG_pure 8 (v := ?_) (fun _ => trivial) (by simp only [List.getElem?_toArray, List.getElem?_cons_succ, List.getElem?_cons_zero]; rfl) (by kernel_rfl) (fun _ _ _ _ _ h => h) ⟨(by rfl), (by intro c h; cases h), ?_⟩ hHeld ?_
                      rotate_left
                      focus (intro wS hSw; (try replace hSw := HSF.out wS hSw); (try dsimp only at hSw); go_simp; (try with_reducible rfl))
                      (try simp only [Act.put, List.setIfInBounds_toArray, List.set_cons_zero, List.set_cons_succ])
                      refine wpAnyG_take 9 (v := ?_) (fun _ => trivial) (by simp only [List.getElem?_toArray, List.getElem?_cons_succ, List.getElem?_cons_zero]; rfl) (by kernel_rfl) (fun _ _ _ _ _ h => h) ⟨(by rfl), (by intro c h; cases h), ?_⟩ hHeld ?_
                      rotate_left
                      focus (intro wS hSw; (try replace hSw := HSF.out wS hSw); (try dsimp only at hSw); go_simp; (try with_reducible rfl))
                      (try simp only [Act.put, List.setIfInBounds_toArray, List.set_cons_zero, List.set_cons_succ])
                      refine wpAnyG_pure 10 (v := ?_) (fun _ => trivial) (by simp only [List.getElem?_toArray, List.getElem?_cons_succ, List.getElem?_cons_zero]; rfl) (by kernel_rfl) (fun _ _ _ _ _ h => h) ⟨(by rfl), (by intro c h; cases h), ?_⟩ hHeld ?_
                      rotate_left
                      focus (intro wS hSw; (try replace hSw := HSF.out wS hSw); (try dsimp only at hSw); go_simp; (try with_reducible rfl))
                      (try simp only [Act.put, List.setIfInBounds_toArray, List.set_cons_zero, List.set_cons_succ])
                      refine wpAnyG_pure 11 (v := ?_) (fun _ => trivial) (by simp only [List.getElem?_toArray, List.getElem?_cons_succ, List.getElem?_cons_zero]; rfl) (by kernel_rfl) (fun _ _ _ _ _ h => h) ⟨(by rfl), (by intro c h; cases h), ?_⟩ hHeld ?_
                      rotate_left
                      focus (intro wS hSw; (try replace hSw := HSF.out wS hSw); (try dsimp only at hSw); go_simp; (try with_reducible rfl))
                      (try simp only [Act.put, List.setIfInBounds_toArray, List.set_cons_zero, List.set_cons_succ])
                      refine wpAnyG_pure 12 (v := ?_) (fun _ => trivial) (by simp only [List.getElem?_toArray, List.getElem?_cons_succ, List.getElem?_cons_zero]; rfl) (by kernel_rfl) (fun _ _ _ _ _ h => h) ⟨(by rfl), (by intro c h; cases h), ?_⟩ hHeld ?_
                      rotate_left
                      focus (intro wS hSw; (try replace hSw := HSF.out wS hSw); (try dsimp only at hSw); go_simp; (try with_reducible rfl))
                      (try simp only [Act.put, List.setIfInBounds_toArray, List.set_cons_zero, List.set_cons_succ])
                      refine wpAnyG_pure 13 (v := ?_) (fun _ => trivial) (by simp only [List.getElem?_toArray, List.getElem?_cons_succ, List.getElem?_cons_zero]; rfl) (by kernel_rfl) (fun _ _ _ _ _ h => h) ⟨(by rfl), (by intro c h; cases h), ?_⟩ hHeld ?_
                      rotate_left
                      focus (intro wS hSw; (try replace hSw := HSF.out wS hSw); (try dsimp only at hSw); go_simp; (try with_reducible rfl))
                      (try simp only [Act.put, List.setIfInBounds_toArray, List.set_cons_zero, List.set_cons_succ])
                      refine wpAnyG_pure 14 (v := ?_) (fun _ => trivial) (by simp only [List.getElem?_toArray, List.getElem?_cons_succ, List.getElem?_cons_zero]; rfl) (by kernel_rfl) (fun _ _ _ _ _ h => h) ⟨(by rfl), (by intro c h; cases h), ?_⟩ hHeld ?_
                      rotate_left
                      focus (intro wS hSw; (try replace hSw := HSF.out wS hSw); (try dsimp only at hSw); go_simp; (try with_reducible rfl))
                      (try simp only [Act.put, List.setIfInBounds_toArray, List.set_cons_zero, List.set_cons_succ])
                      refine wpAnyG_pure 15 (v := ?_) (fun _ => trivial) (by simp only [List.getElem?_toArray, List.getElem?_cons_succ, List.getElem?_cons_zero]; rfl) (by kernel_rfl) (fun _ _ _ _ _ h => h) ⟨(by rfl), (by intro c h; cases h), ?_⟩ hHeld ?_
                      rotate_left
                      focus (intro wS hSw; (try replace hSw := HSF.out wS hSw); (try dsimp only at hSw); go_simp; (try with_reducible rfl))
                      (try simp only [Act.put, List.setIfInBounds_toArray, List.set_cons_zero, List.set_cons_succ])
                      refine wpAnyG_pure 16 (v := ?_) (fun _ => trivial) (by simp only [List.getElem?_toArray, List.getElem?_cons_succ, List.getElem?_cons_zero]; rfl) (by kernel_rfl) (fun _ _ _ _ _ h => h) ⟨(by rfl), (by intro c h; cases h), ?_⟩ hHeld ?_
                      rotate_left
                      focus (intro wS hSw; (try replace hSw := HSF.out wS hSw); (try dsimp only at hSw); go_simp; (try with_reducible rfl))
                      (try simp only [Act.put, List.setIfInBounds_toArray, List.set_cons_zero, List.set_cons_succ])
                      refine wpAnyG_pure 17 (v := ?_) (fun _ => trivial) (by simp only [List.getElem?_toArray, List.getElem?_cons_succ, List.getElem?_cons_zero]; rfl) (by kernel_rfl) (fun _ _ _ _ _ h => h) ⟨(by rfl), (by intro c h; cases h), ?_⟩ hHeld ?_
                      rotate_left
                      focus (intro wS hSw; (try replace hSw := HSF.out wS hSw); (try dsimp only at hSw); go_simp; (try with_reducible rfl))
                      (try simp only [Act.put, List.setIfInBounds_toArray, List.set_cons_zero, List.set_cons_succ])
                      refine wpAnyG_pure 18 (v := ?_) (fun _ => trivial) (by simp only [List.getElem?_toArray, List.getElem?_cons_succ, List.getElem?_cons_zero]; rfl) (by kernel_rfl) (fun _ _ _ _ _ h => h) ⟨(by rfl), (by intro c h; cases h), ?_⟩ hHeld ?_
                      rotate_left
                      focus (intro wS hSw; (try replace hSw := HSF.out wS hSw); (try dsimp only at hSw); go_simp; (try with_reducible rfl))
                      (try simp only [Act.put, List.setIfInBounds_toArray, List.set_cons_zero, List.set_cons_succ])
                      refine wpAnyG_pure 19 (v := ?_) (fun _ => trivial) (by simp only [List.getElem?_toArray, List.getElem?_cons_succ, List.getElem?_cons_zero]; rfl) (by kernel_rfl) (fun _ _ _ _ _ h => h) ⟨(by rfl), (by intro c h; cases h), ?_⟩ hHeld ?_
                      rotate_left
                      focus (intro wS hSw; (try replace hSw := HSF.out wS hSw); (try dsimp only at hSw); go_simp; (try with_reducible rfl))
                      (try simp only [Act.put, List.setIfInBounds_toArray, List.set_cons_zero, List.set_cons_succ])
                      refine wpAnyG_take 20 (v := ?_) (fun _ => trivial) (by simp only [List.getElem?_toArray, List.getElem?_cons_succ, List.getElem?_cons_zero]; rfl) (by kernel_rfl) (fun _ _ _ _ _ h => h) ⟨(by rfl), (by intro c h; cases h), ?_⟩ hHeld ?_
                      rotate_left
                      focus (intro wS hSw; (try replace hSw := HSF.out wS hSw); (try dsimp only at hSw); go_simp; (try with_reducible rfl))
                      (try simp only [Act.put, List.setIfInBounds_toArray, List.set_cons_zero, List.set_cons_succ])
                      refine wpAnyG_pure 21 (v := ?_) (fun _ => trivial) (by simp only [List.getElem?_toArray, List.getElem?_cons_succ, List.getElem?_cons_zero]; rfl) (by kernel_rfl) (fun _ _ _ _ _ h => h) ⟨(by rfl), (by intro c h; cases h), ?_⟩ hHeld ?_
                      rotate_left
                      focus (intro wS hSw; (try replace hSw := HSF.out wS hSw); (try dsimp only at hSw); go_simp; (try with_reducible rfl))
                      (try simp only [Act.put, List.setIfInBounds_toArray, List.set_cons_zero, List.set_cons_succ])
                      refine wpAnyG_pure 22 (v := ?_) (fun _ => trivial) (by simp only [List.getElem?_toArray, List.getElem?_cons_succ, List.getElem?_cons_zero]; rfl) (by kernel_rfl) (fun _ _ _ _ _ h => h) ⟨(by rfl), (by intro c h; cases h), ?_⟩ hHeld ?_
                      rotate_left
                      focus (intro wS hSw; (try replace hSw := HSF.out wS hSw); (try dsimp only at hSw); go_simp; (try with_reducible rfl))
                      (try simp only [Act.put, List.setIfInBounds_toArray, List.set_cons_zero, List.set_cons_succ])
                      refine wpAnyG_pure 23 (v := ?_) (fun _ => trivial) (by simp only [List.getElem?_toArray, List.getElem?_cons_succ, List.getElem?_cons_zero]; rfl) (by kernel_rfl) (fun _ _ _ _ _ h => h) ⟨(by rfl), (by intro c h; cases h), ?_⟩ hHeld ?_
                      rotate_left
                      focus (intro wS hSw; (try replace hSw := HSF.out wS hSw); (try dsimp only at hSw); go_simp; (try with_reducible rfl))
                      (try simp only [Act.put, List.setIfInBounds_toArray, List.set_cons_zero, List.set_cons_succ])
                      refine wpAnyG_pure 24 (v := ?_) (fun _ => trivial) (by simp only [List.getElem?_toArray, List.getElem?_cons_succ, List.getElem?_cons_zero]; rfl) (by kernel_rfl) (fun _ _ _ _ _ h => h) ⟨(by rfl), (by intro c h; cases h), ?_⟩ hHeld ?_
                      rotate_left
                      focus (intro wS hSw; (try replace hSw := HSF.out wS hSw); (try dsimp only at hSw); go_simp; (try with_reducible rfl))
                      (try simp only [Act.put, List.setIfInBounds_toArray, List.set_cons_zero, List.set_cons_succ])
                      refine wpAnyG_pure 25 (v := ?_) (fun _ => trivial) (by simp only [List.getElem?_toArray, List.getElem?_cons_succ, List.getElem?_cons_zero]; rfl) (by kernel_rfl) (fun _ _ _ _ _ h => h) ⟨(by rfl), (by intro c h; cases h), ?_⟩ hHeld ?_
                      rotate_left
                      focus (intro wS hSw; (try replace hSw := HSF.out wS hSw); (try dsimp only at hSw); go_simp; (try with_reducible rfl))
                      (try simp only [Act.put, List.setIfInBounds_toArray, List.set_cons_zero, List.set_cons_succ])
                      refine wpAnyG_take 26 (v := ?_) (fun _ => trivial) (by simp only [List.getElem?_toArray, List.getElem?_cons_succ, List.getElem?_cons_zero]; rfl) (by kernel_rfl) (fun _ _ _ _ _ h => h) ⟨(by rfl), (by intro c h; cases h), ?_⟩ hHeld ?_
                      rotate_left
                      focus (intro wS hSw; (try replace hSw := HSF.out wS hSw); (try dsimp only at hSw); go_simp; (try with_reducible rfl))
                      (try simp only [Act.put, List.setIfInBounds_toArray, List.set_cons_zero, List.set_cons_succ])
                      refine wpAnyG_pure 27 (v := ?_) (fun _ => trivial) (by simp only [List.getElem?_toArray, List.getElem?_cons_succ, List.getElem?_cons_zero]; rfl) (by kernel_rfl) (fun _ _ _ _ _ h => h) ⟨(by rfl), (by intro c h; cases h), ?_⟩ hHeld ?_
                      rotate_left
                      focus (intro wS hSw; (try replace hSw := HSF.out wS hSw); (try dsimp only at hSw); go_simp; (try with_reducible rfl))
                      (try simp only [Act.put, List.setIfInBounds_toArray, List.set_cons_zero, List.set_cons_succ])
                      refine wpAnyG_pure 28 (v := ?_) (fun _ => trivial) (by simp only [List.getElem?_toArray, List.getElem?_cons_succ, List.getElem?_cons_zero]; rfl) (by kernel_rfl) (fun _ _ _ _ _ h => h) ⟨(by rfl), (by intro c h; cases h), ?_⟩ hHeld ?_
                      rotate_left
                      focus (intro wS hSw; (try replace hSw := HSF.out wS hSw); (try dsimp only at hSw); go_simp; (try with_reducible rfl))
                      (try simp only [Act.put, List.setIfInBounds_toArray, List.set_cons_zero, List.set_cons_succ])
                      refine wpAnyG_pure 29 (v := ?_) (fun _ => trivial) (by simp only [List.getElem?_toArray, List.getElem?_cons_succ, List.getElem?_cons_zero]; rfl) (by kernel_rfl) (fun _ _ _ _ _ h => h) ⟨(by rfl), (by intro c h; cases h), ?_⟩ hHeld ?_
                      rotate_left
                      focus (intro wS hSw; (try replace hSw := HSF.out wS hSw); (try dsimp only at hSw); go_simp; (try with_reducible rfl))
                      (try simp only [Act.put, List.setIfInBounds_toArray, List.set_cons_zero, List.set_cons_succ])
                      refine wpAnyS_done (by kernel_rfl) ?_
                      clear hHeld HSF
                      go_wp2_with fail
                      refine bodyPost_ret (v := .tuple #[.agg #[.slice none 0 0, .int .i64 0], .bool false]) (by simp [results, Tryz.results8, go_sem, r0, r1, fr0, fr1, lR]) rfl (hfin.out _ _ (B5.out.trans (HU.out.below.mono B5.out.size)) hr.out rfl)
              · have hr := hid (HR.out.1 (.inr (.inr (.inr (.inr (.inl (hnr.out (by omega))))))))
                have hxN' : (n : Int) ≤ m := by omega
                as_aux_lemma =>
                  go_upto_region 11 with fail
                  refine wpIn_wide.1 (wpIn_region_S (n := 0) (fun wq => wq.cell? ⟨b9, o9 + k, none⟩ = some (.int .i64 (m : Nat))) [] (by kernel_rfl) (g1) (fun hHeld => ?_))
                  have HSF := hid (fun (wq : World) (hq : wq.cell? ⟨b9, o9 + k, none⟩ = some (.int .i64 (m : Nat))) => hq)
                  have HUd := hid (QW.drew HU.out)
                  have rrd := rr.drew
                  clear r0 r1 fr0 fr1 lR l0 l1 lL HU
                  have g1 : wr.drew.cell? ⟨b9, o9 + (k), none⟩ = some (.int .i64 (m : Nat)) := g1
                  generalize wr.drew = wd at *
                  have HU := HUd
                  have r0 := rrd.cell 0; have r1 := rrd.cell 1
                  have fr0 := rrd.frozen 0; have fr1 := rrd.frozen 1; have lR := rrd.lt
                  have l0 := HU.out.bl.cell 0; have l1 := HU.out.bl.cell 1; have lL := HU.out.bl.lt
                  simp at l0 l1 r0 r1
                  clear rrd HUd
                  refine wpAnyG_pure 0 (v := ?_) (fun _ => trivial) (by simp only [List.getElem?_toArray, List.getElem?_cons_succ, List.getElem?_cons_zero]; rfl) (by kernel_rfl) (fun _ _ _ _ _ h => h) ⟨(by rfl), (by intro c h; cases h), ?_⟩ hHeld ?_
                  rotate_left
                  focus (intro wS hSw; (try replace hSw := HSF.out wS hSw); (try dsimp only at hSw); go_simp; (try with_reducible rfl))
                  (try simp only [Act.put, List.setIfInBounds_toArray, List.set_cons_zero, List.set_cons_succ])
                  refine wpAnyG_pure 1 (v := ?_) (fun _ => trivial) (by simp only [List.getElem?_toArray, List.getElem?_cons_succ, List.getElem?_cons_zero]; rfl) (by kernel_rfl) (fun _ _ _ _ _ h => h) ⟨(by rfl), (by intro c h; cases h), ?_⟩ hHeld ?_
                  rotate_left
                  focus (intro wS hSw; (try replace hSw := HSF.out wS hSw); (try dsimp only at hSw); go_simp; (try with_reducible rfl))
                  (try simp only [Act.put, List.setIfInBounds_toArray, List.set_cons_zero, List.set_cons_succ])
                  refine wpAnyG_pure 2 (v := ?_) (fun _ => trivial) (by simp only [List.getElem?_toArray, List.getElem?_cons_succ, List.getElem?_cons_zero]; rfl) (by kernel_rfl) (fun _ _ _ _ _ h => h) ⟨(by rfl), (by intro c h; cases h), ?_⟩ hHeld ?_
                  rotate_left
                  focus (intro wS hSw; (try replace hSw := HSF.out wS hSw); (try dsimp only at hSw); go_simp; (try with_reducible rfl))
                  (try simp only [Act.put, List.setIfInBounds_toArray, List.set_cons_zero, List.set_cons_succ])
                  refine wpAnyG_take 3 (v := ?_) (fun _ => trivial) (by simp only [List.getElem?_toArray, List.getElem?_cons_succ, List.getElem?_cons_zero]; rfl) (by kernel_rfl) (fun _ _ _ _ _ h => h) ⟨(by rfl), (by intro c h; cases h), ?_⟩ hHeld ?_
                  rotate_left
                  focus (intro wS hSw; (try replace hSw := HSF.out wS hSw); (try dsimp only at hSw); go_simp; (try with_reducible rfl))
                  (try simp only [Act.put, List.setIfInBounds_toArray, List.set_cons_zero, List.set_cons_succ])
                  refine wpAnyG_pure 4 (v := ?_) (fun _ => trivial) (by simp only [List.getElem?_toArray, List.getElem?_cons_succ, List.getElem?_cons_zero]; rfl) (by kernel_rfl) (fun _ _ _ _ _ h => h) ⟨(by rfl), (by intro c h; cases h), ?_⟩ hHeld ?_
                  rotate_left
                  focus (intro wS hSw; (try replace hSw := HSF.out wS hSw); (try dsimp only at hSw); go_simp; (try with_reducible rfl))
                  (try simp only [Act.put, List.setIfInBounds_toArray, List.set_cons_zero, List.set_cons_succ])
                  refine wpAnyG_pure 5 (v := ?_) (fun _ => trivial) (by simp only [List.getElem?_toArray, List.getElem?_cons_succ, List.getElem?_cons_zero]; rfl) (by kernel_rfl) (fun _ _ _ _ _ h => h) ⟨(by rfl), (by intro c h; cases h), ?_⟩ hHeld ?_
                  rotate_left
                  focus (intro wS hSw; (try replace hSw := HSF.out wS hSw); (try dsimp only at hSw); go_simp; (try with_reducible rfl))
                  (try simp only [Act.put, List.setIfInBounds_toArray, List.set_cons_zero, List.set_cons_succ])
                  refine wpAnyG_pure 6 (v := ?_) (fun _ => trivial) (by simp only [List.getElem?_toArray, List.getElem?_cons_succ, List.getElem?_cons_zero]; rfl) (by kernel_rfl) (fun _ _ _ _ _ h => h) ⟨(by rfl), (by intro c h; cases h), ?_⟩ hHeld ?_
                  rotate_left
                  focus (intro wS hSw; (try replace hSw := HSF.out wS hSw); (try dsimp only at hSw); go_simp; (try with_reducible rfl))
                  (try simp only [Act.put, List.setIfInBounds_toArray, List.set_cons_zero, List.set_cons_succ])
                  refine wpAnyG_pure 7 (v := ?_) (fun _ => trivial) (by simp only [List.getElem?_toArray, List.getElem?_cons_succ, List.getElem?_cons_zero]; rfl) (by kernel_rfl) (fun _ _ _ _ _ h => h) ⟨(by rfl), (by intro c h; cases h), ?_⟩ hHeld ?_
                  rotate_left
                  focus (intro wS hSw; (try replace hSw := HSF.out wS hSw); (try dsimp only at hSw); go_simp; (try with_reducible rfl))
                  (try simp only [Act.put, List.setIfInBounds_toArray, List.set_cons_zero, List.set_cons_succ])
                  refine wpAnyG_pure 8 (v := ?_) (fun _ => trivial) (by simp only [List.getElem?_toArray, List.getElem?_cons_succ, List.getElem?_cons_zero]; rfl) (by kernel_rfl) (fun _ _ _ _ _ h => h) ⟨(by rfl), (by intro c h; cases h), ?_⟩ hHeld ?_
                  rotate_left
                  focus (intro wS hSw; (try replace hSw := HSF.out wS hSw); (try dsimp only at hSw); go_simp; (try with_reducible rfl))
                  (try simp only [Act.put, List.setIfInBounds_toArray, List.set_cons_zero, List.set_cons_succ])
                  refine wpAnyG_take 9 (v := ?_) (fun _ => trivial) (by simp only [List.getElem?_toArray, List.getElem?_cons_succ, List.getElem?_cons_zero]; rfl) (by kernel_rfl) (fun _ _ _ _ _ h => h) ⟨(by rfl), (by intro c h; cases h), ?_⟩ hHeld ?_
                  rotate_left
                  focus (intro wS hSw; (try replace hSw := HSF.out wS hSw); (try dsimp only at hSw); go_simp; (try with_reducible rfl))
                  (try simp only [Act.put, List.setIfInBounds_toArray, List.set_cons_zero, List.set_cons_succ])
                  refine wpAnyG_pure 10 (v := ?_) (fun _ => trivial) (by simp only [List.getElem?_toArray, List.getElem?_cons_succ, List.getElem?_cons_zero]; rfl) (by kernel_rfl) (fun _ _ _ _ _ h => h) ⟨(by rfl), (by intro c h; cases h), ?_⟩ hHeld ?_
                  rotate_left
                  focus (intro wS hSw; (try replace hSw := HSF.out wS hSw); (try dsimp only at hSw); go_simp; (try with_reducible rfl))
                  (try simp only [Act.put, List.setIfInBounds_toArray, List.set_cons_zero, List.set_cons_succ])
                  refine wpAnyG_pure 11 (v := ?_) (fun _ => trivial) (by simp only [List.getElem?_toArray, List.getElem?_cons_succ, List.getElem?_cons_zero]; rfl) (by kernel_rfl) (fun _ _ _ _ _ h => h) ⟨(by rfl), (by intro c h; cases h), ?_⟩ hHeld ?_
                  rotate_left
                  focus (intro wS hSw; (try replace hSw := HSF.out wS hSw); (try dsimp only at hSw); go_simp; (try with_reducible rfl))
                  (try simp only [Act.put, List.setIfInBounds_toArray, List.set_cons_zero, List.set_cons_succ])
                  refine wpAnyG_pure 12 (v := ?_) (fun _ => trivial) (by simp only [List.getElem?_toArray, List.getElem?_cons_succ, List.getElem?_cons_zero]; rfl) (by kernel_rfl) (fun _ _ _ _ _ h => h) ⟨(by rfl), (by intro c h; cases h), ?_⟩ hHeld ?_
                  rotate_left
                  focus (intro wS hSw; (try replace hSw := HSF.out wS hSw); (try dsimp only at hSw); go_simp; (try with_reducible rfl))
                  (try simp only [Act.put, List.setIfInBounds_toArray, List.set_cons_zero, List.set_cons_succ])
                  refine wpAnyG_pure 13 (v := ?_) (fun _ => trivial) (by simp only [List.getElem?_toArray, List.getElem?_cons_succ, List.getElem?_cons_zero]; rfl) (by kernel_rfl) (fun _ _ _ _ _ h => h) ⟨(by rfl), (by intro c h; cases h), ?_⟩ hHeld ?_
                  rotate_left
                  focus (intro wS hSw; (try replace hSw := HSF.out wS hSw); (try dsimp only at hSw); go_simp; (try with_reducible rfl))
                  (try simp only [Act.put, List.setIfInBounds_toArray, List.set_cons_zero, List.set_cons_succ])
                  refine wpAnyG_skip 14 (fun _ => trivial) (by simp only [List.getElem?_toArray, List.getElem?_cons_succ, List.getElem?_cons_zero]; rfl) (by kernel_rfl) (fun _ _ _ _ _ h => h) (by rfl) hHeld ?_
                  (try simp only [Act.put, List.setIfInBounds_toArray, List.set_cons_zero, List.set_cons_succ])
                  refine wpAnyG_skip 15 (fun _ => trivial) (by simp only [List.getElem?_toArray, List.getElem?_cons_succ, List.getElem?_cons_zero]; rfl) (by kernel_rfl) (fun _ _ _ _ _ h => h) (by rfl) hHeld ?_
                  (try simp only [Act.put, List.setIfInBounds_toArray, List.set_cons_zero, List.set_cons_succ])
                  refine wpAnyG_skip 16 (fun _ => trivial) (by simp only [List.getElem?_toArray, List.getElem?_cons_succ, List.getElem?_cons_zero]; rfl) (by kernel_rfl) (fun _ _ _ _ _ h => h) (by rfl) hHeld ?_
                  (try simp only [Act.put, List.setIfInBounds_toArray, List.set_cons_zero, List.set_cons_succ])
                  refine wpAnyG_skip 17 (fun _ => trivial) (by simp only [List.getElem?_toArray, List.getElem?_cons_succ, List.getElem?_cons_zero]; rfl) (by kernel_rfl) (fun _ _ _ _ _ h => h) (by rfl) hHeld ?_
                  (try simp only [Act.put, List.setIfInBounds_toArray, List.set_cons_zero, List.set_cons_succ])
                  refine wpAnyG_skip 18 (fun _ => trivial) (by simp only [List.getElem?_toArray, List.getElem?_cons_succ, List.getElem?_cons_zero]; rfl) (by kernel_rfl) (fun _ _ _ _ _ h => h) (by rfl) hHeld ?_
                  (try simp only [Act.put, List.setIfInBounds_toArray, List.set_cons_zero, List.set_cons_succ])
                  refine wpAnyG_skip 19 (fun _ => trivial) (by simp only [List.getElem?_toArray, List.getElem?_cons_succ, List.getElem?_cons_zero]; rfl) (by kernel_rfl) (fun _ _ _ _ _ h => h) (by rfl) hHeld ?_
                  (try simp only [Act.put, List.setIfInBounds_toArray, List.set_cons_zero, List.set_cons_succ])
                  refine wpAnyG_skip 20 (fun _ => trivial) (by simp only [List.getElem?_toArray, List.getElem?_cons_succ, List.getElem?_cons_zero]; rfl) (by kernel_rfl) (fun _ _ _ _ _ h => h) (by rfl) hHeld ?_
                  (try simp only [Act.put, List.setIfInBounds_toArray, List.set_cons_zero, List.set_cons_succ])
                  refine wpAnyG_skip 21 (fun _ => trivial) (by simp only [List.getElem?_toArray, List.getElem?_cons_succ, List.getElem?_cons_zero]; rfl) (by kernel_rfl) (fun _ _ _ _ _ h => h) (by rfl) hHeld ?_
                  (try simp only [Act.put, List.setIfInBounds_toArray, List.set_cons_zero, List.set_cons_succ])
                  refine wpAnyG_skip 22 (fun _ => trivial) (by simp only [List.getElem?_toArray, List.getElem?_cons_succ, List.getElem?_cons_zero]; rfl) (by kernel_rfl) (fun _ _ _ _ _ h => h) (by rfl) hHeld ?_
                  (try simp only [Act.put, List.setIfInBounds_toArray, List.set_cons_zero, List.set_cons_succ])
                  refine wpAnyG_skip 23 (fun _ => trivial) (by simp only [List.getElem?_toArray, List.getElem?_cons_succ, List.getElem?_cons_zero]; rfl) (by kernel_rfl) (fun _ _ _ _ _ h => h) (by rfl) hHeld ?_
                  (try simp only [Act.put, List.setIfInBounds_toArray, List.set_cons_zero, List.set_cons_succ])
                  refine wpAnyG_skip 24 (fun _ => trivial) (by simp only [List.getElem?_toArray, List.getElem?_cons_succ, List.getElem?_cons_zero]; rfl) (by kernel_rfl) (fun _ _ _ _ _ h => h) (by rfl) hHeld ?_
                  (try simp only [Act.put, List.setIfInBounds_toArray, List.set_cons_zero, List.set_cons_succ])
                  refine wpAnyG_skip 25 (fun _ => trivial) (by simp only [List.getElem?_toArray, List.getElem?_cons_succ, List.getElem?_cons_zero]; rfl) (by kernel_rfl) (fun _ _ _ _ _ h => h) (by rfl) hHeld ?_
                  (try simp only [Act.put, List.setIfInBounds_toArray, List.set_cons_zero, List.set_cons_succ])
                  refine wpAnyG_skip 26 (fun _ => trivial) (by simp only [List.getElem?_toArray, List.getElem?_cons_succ, List.getElem?_cons_zero]; rfl) (by kernel_rfl) (fun _ _ _ _ _ h => h) (by rfl) hHeld ?_
                  (try simp only [Act.put, List.setIfInBounds_toArray, List.set_cons_zero, List.set_cons_succ])
                  refine wpAnyG_skip 27 (fun _ => trivial) (by simp only [List.getElem?_toArray, List.getElem?_cons_succ, List.getElem?_cons_zero]; rfl) (by kernel_rfl) (fun _ _ _ _ _ h => h) (by rfl) hHeld ?_
                  (try simp only [Act.put, List.setIfInBounds_toArray, List.set_cons_zero, List.set_cons_succ])
                  refine wpAnyG_skip 28 (fun _ => trivial) (by simp only [List.getElem?_toArray, List.getElem?_cons_succ, List.getElem?_cons_zero]; rfl) (by kernel_rfl) (fun _ _ _ _ _ h => h) (by rfl) hHeld ?_
                  (try simp only [Act.put, List.setIfInBounds_toArray, List.set_cons_zero, List.set_cons_succ])
                  refine wpAnyG_pure 29 (v := ?_) (fun _ => trivial) (by simp only [List.getElem?_toArray, List.getElem?_cons_succ, List.getElem?_cons_zero]; rfl) (by kernel_rfl) (fun _ _ _ _ _ h => h) ⟨(by rfl), (by intro c h; cases h), ?_⟩ hHeld ?_
                  rotate_left
                  focus (intro wS hSw; (try replace hSw := HSF.out wS hSw); (try dsimp only at hSw); go_simp; (try with_reducible rfl))
                  (try simp only [Act.put, List.setIfInBounds_toArray, List.set_cons_zero, List.set_cons_succ])
                  refine wpAnyS_done (by kernel_rfl) ?_
                  clear hHeld HSF
                  go_wp2_with fail
                  refine bodyPost_ret (v := .tuple #[.agg #[.slice none 0 0, .int .i64 0], .bool false]) (by simp [results, Tryz.results8, go_sem, r0, r1, fr0, fr1, lR]) rfl (hfin.out _ _ (B5.out.trans (HU.out.below.mono B5.out.size)) hr.out rfl)
          · obtain rfl : k = xs.length := by omega
            rw [List.take_length] at hu hin hfl
            obtain ⟨full, hfull⟩ : ∃ f, f = fullOf n xs := ⟨_, rfl⟩
            rw [← hfull] at hu hfl HR
            have HU := hid hu
            have Hfl := hid hfl
            clear hu hfl hfull
            clear l0 l1 r0 r1 fr0 fr1 lR lL
            have l0 := HU.out.bl.cell 0; have l1 := HU.out.bl.cell 1; have lL := HU.out.bl.lt
            simp at l0 l1
            have hR9 := hid (right_r (some ⟨gF, 0, none⟩) n full t wr (by rw [Hfl.out]; unfold maxLen; omega) (Blk.bools HU.out.bf HU.out.bf.lt))
            rw [Hfl.out] at hR9
            cases hrt : rightL full t with
            | false =>
              have hr := hid (HR.out.1 (.inr (.inr (.inr (.inr (.inr hrt))))))
              rw [hrt] at hR9
              clear hrt
              go_wp2_with fail
              refine hR9.out.mono ?_
              rintro e w6 ⟨rfl, hB⟩
              have B6 := hid (HU.out.below.trans (hB.mono HU.out.below.size))
              have r6 := r5.out.below B6.out r5.out.lt
              clear l0 l1 lL hB hR9
              have r0 := r6.cell 0; have r1 := r6.cell 1
              have fr0 := r6.frozen 0; have fr1 := r6.frozen 1; have lR := r6.lt
              simp at r0 r1
              go_wp2_with fail
              refine bodyPost_ret (v := .tuple #[.agg #[.slice none 0 0, .int .i64 0], .bool false]) (by simp [results, Tryz.results8, go_sem, r0, r1, fr0, fr1, lR]) rfl (hfin.out _ _ (B5.out.trans (B6.out.mono B5.out.size)) hr.out rfl)
            | true =>
              have hr := hid (HR.out.2 Hb3.out.1 Hb3.out.2 hn1 hn24 hin.out hrt)
              rw [hrt] at hR9
              clear hrt
              go_wp2_with fail
              refine hR9.out.mono ?_
              rintro e w6 ⟨rfl, hB⟩
              have B6 := hid (HU.out.below.trans (hB.mono HU.out.below.size))
              have L6 := hid (HU.out.bl.below hB HU.out.bl.lt)
              have F6 := hid (HU.out.bf.below hB HU.out.bf.lt)
              have hF6 := hid (And.intro HU.out.hF HU.out.hL)
              have r6 := r5.out.below B6.out r5.out.lt
              clear l0 l1 lL hB hR9 HU
              have l0 := L6.out.cell 0; have l1 := L6.out.cell 1; have lL := L6.out.lt
              have r0 := r6.cell 0; have r1 := r6.cell 1
              have fr0 := r6.frozen 0; have fr1 := r6.frozen 1; have lR := r6.lt
              simp at r0 r1 l0 l1
              go_wp2_with fail
              refine bodyPost_ret (v := .tuple #[.agg #[.slice (some ⟨gF, 0, none⟩) n n, .int .i64 t], .bool true]) (by simp [results, Tryz.results8, go_sem, r0, r1, fr0, fr1, lR]) rfl ?_
              rw [hr.out]
              have hne : gF ≠ w.heap.size := by have := hF6.out.1; have := hw5.out; omega
              refine ⟨gF, by rw [Hfl.out], Blk.bools ((F6.out.far (by simpa using hne) _).far (by simpa using hne) _) (by simpa using F6.out.lt), ?_⟩
              exact ((hB4.out.trans ((B5.out.trans (B6.out.mono B5.out.size)).mono hB4.out.size)).setCell (Nat.le_refl _) _).setCell (Nat.le_refl _) _
    · have hr := hid (HR.out.1 (by
        by_cases h : n < 1
        · exact .inr (.inr (.inl h))
        · exact .inr (.inr (.inr (.inl (by omega))))))
      have x0 := r5.out.cell 0; have x1 := r5.out.cell 1; have f0 := r5.out.frozen 0; have f1 := r5.out.frozen 1; have lR := r5.out.lt
      simp at x0 x1
      by_cases h1 : n < 1
      · have h1' : (n : Int) < 1 := by omega
        go_wp2_with fail
        exact bodyPost_ret (v := .tuple #[.agg #[.slice none 0 0, .int .i64 0], .bool false]) (by simp [results, Tryz.results8, go_sem, x0, x1, f0, f1, lR]) rfl (hfin.out _ _ B5.out hr.out rfl)
      · have h1' : ¬ (n : Int) < 1 := by omega
        have h2' : (24 : Int) < n := by omega
        go_wp2_with fail
        exact bodyPost_ret (v := .tuple #[.agg #[.slice none 0 0, .int .i64 0], .bool false]) (by simp [results, Tryz.results8, go_sem, x0, x1, f0, f1, lR]) rfl (hfin.out _ _ B5.out hr.out rfl)
end Go.Proofs.YtgbgcmhmlnmklaaGreatDoor
