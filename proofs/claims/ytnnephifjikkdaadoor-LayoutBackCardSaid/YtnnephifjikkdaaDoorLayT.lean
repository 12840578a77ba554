
/- Layouts: LayoutBack, the walk. -/
import Derived.Test.YtnnephifjikkdaaDoorLayS
import Derived.Test.YtnnephifjikkdaaDoorLayF
set_option linter.unusedSimpArgs false
set_option linter.unusedVariables false
namespace Go.Proofs.YtnnephifjikkdaaDoor
open Go.RowKit Go.IntWalk

/-- A layout that was read, in the words of a Layout value: what was read, or nothing. -/
def LvRes (w : World) (f : List Bool) (t : Int) (ok : Bool) (e : Ending) (w' : World) : Prop := ∃ A c, e = .returned (.tuple #[.agg #[.slice A f.length c, .int .i64 t], .bool ok]) ∧ SlR w' w'.heap.size A f ∧ Below w.heap.size w w'
theorem lread_some (s : ByteArray) (f : List Bool) (t : Int) (w : World) (hs : s.size ≤ 20000) (he : Env w) (hr : readLay s.data.toList = some (f, t)) : Calls Tryd.prog 12 #[.string s] w (LvRes w f t true) := by
  have h := lread_any s w hs he
  rw [hr] at h
  refine h.mono ?_
  rintro e w' ⟨g, h1, h2, h3⟩
  exact ⟨_, _, h1, h2, h3⟩
theorem lread_none (s : ByteArray) (w : World) (hs : s.size ≤ 20000) (he : Env w) (hr : readLay s.data.toList = none) : Calls Tryd.prog 12 #[.string s] w (LvRes w [] 0 false) := by
  have h := lread_any s w hs he
  rw [hr] at h
  refine h.mono ?_
  rintro e w' ⟨h1, h2⟩
  exact ⟨none, 0, h1, SlR.nil, h2⟩
/-- Behind the first half: the world, and nothing else. -/
def MidB (w : World) (wx : World) : Prop := Below w.heap.size w wx
theorem right_len (l : List Bool) (t : Int) (h : rightL l t = true) : l.length ≤ 24 := ((rightL_iff l t).1 h).2.1
set_option maxRecDepth 100000 in
set_option maxHeartbeats 4000000 in
theorem lback_any (A : Option Addr) (c : Nat) (l : List Bool) (t : Int) (s : ByteArray) (w : World) (hl : l.length ≤ maxLen) (hs : SlR w w.heap.size A l) (ht : I64 t) (he : Env w) :
    Calls Tryd.prog 3 #[.agg #[.slice A l.length c, .int .i64 t], .string s] w fun e w' => e = .returned (.bool true) ∧ Below w.heap.size w w' := by
  have hb0 : Below w.heap.size w (w.alloc (Obj.cells #[.slice A l.length c, .int .i64 t] 24)) := by (repeat (first | exact Below.refl _ _ | assumption | refine below_drewN ?_ _ | refine Below.drew ?_ | refine Below.alloc ?_ (by (try simp); (try omega)) _ | refine Below.setCell ?_ (by (try simp); (try omega)) _))
  have b0 := hid (Blk.new w 24 #[.slice A l.length c, .int .i64 t])
  go_enter Tryd.func3, Tryd.ntmps3
  go_wp2_with fail
  refine (small_any _).mono ?_
  rintro e w1 ⟨rfl, hB⟩
  have hB1 := hid (hb0.trans (hB.mono hb0.size))
  have b1 := hid (b0.out.below hB b0.out.lt)
  clear hB hb0 b0
  have x0 := b1.out.cell 0; have x1 := b1.out.cell 1
  simp at x0 x1
  have z1 := b1.out.lt
  by_cases h24 : (24 : Int) < l.length
  · go_wp2_with fail
    go_ret
    exact ⟨rfl, hB1.out⟩
  by_cases h200 : (200 : Int) < s.size
  · go_wp2_with fail
    go_ret
    exact ⟨rfl, hB1.out⟩
  have hl24 : l.length ≤ 24 := by omega
  go_wp2_with fail
  refine (right_any A c l t w1 hl ((hs.below hB1.out).more hB1.out.size)).mono ?_
  -- the second half: whatever the world
  have hsec : Hid (∀ wy : World, Below w.heap.size w wy → (∃ f u ok, Calls Tryd.prog 12 #[.string s] wy (LvRes wy f u ok) ∧ ((ok = false ∧ f = [] ∧ u = 0) ∨ (ok = true ∧ rightL f u = true ∧ encLay f u = s.data.toList)))) := hid (by
    intro wy hy
    cases hr : readLay s.data.toList with
    | none => exact ⟨[], 0, false, lread_none s wy (by omega) (he.below hy) hr, .inl ⟨rfl, rfl, rfl⟩⟩
    | some fu =>
      obtain ⟨f, u⟩ := fu
      have := readLay_some hr
      exact ⟨f, u, true, lread_some s f u wy (by omega) (he.below hy) hr, .inr ⟨rfl, this.1, this.2⟩⟩)
  cases hrt : rightL l t with
  | false =>
    clear hrt
    rintro e w2 ⟨rfl, hB⟩
    have hB2 := hid (hB1.out.trans (hB.mono hB1.out.size))
    clear hB hB1 b1 x0 x1 z1
    go_wp2_with fail
    obtain ⟨f, u, ok, hrd, hcase⟩ := hsec.out w2 hB2.out
    refine hrd.mono ?_
    rintro e wa ⟨A7, c7, rfl, hs7, hB⟩
    have hBa := hid (hB2.out.trans (hB.mono hB2.out.size))
    clear hB hrd hsec
    rcases hcase with ⟨rfl, rfl, rfl⟩ | ⟨rfl, hrf, hef⟩
    · go_wp2_with fail
      go_ret
      exact ⟨rfl, hBa.out.alloc hBa.out.size _⟩
    · have bz := hid (Blk.new wa 24 #[.slice A7 f.length c7, .int .i64 u])
      have hBb := hid (hBa.out.alloc hBa.out.size (Obj.cells #[.slice A7 f.length c7, .int .i64 u] 24))
      have hs8 := (hs7.alloc (Nat.le_refl _) (Obj.cells #[.slice A7 f.length c7, .int .i64 u] 24)).more (B' := (wa.alloc (Obj.cells #[.slice A7 f.length c7, .int .i64 u] 24)).heap.size) (by simp)
      have hf24 := right_len f u hrf
      have huI : I64 u := by
        have h9 := (rightL_iff f u).1 hrf
        exact ⟨by omega, by omega⟩
      have Hrf := hid hrf
      have Hef := hid hef
      clear hrf hef hBa hs7
      go_wp2_with fail
      refine (right_any A7 c7 f u _ (by unfold maxLen; omega) hs8).mono ?_
      rw [Hrf.out]
      rintro e wb ⟨rfl, hB⟩
      have hBc := hid (hBb.out.trans (hB.mono hBb.out.size))
      have bz2 := hid (bz.out.below hB bz.out.lt)
      have hs9 := (hs8.below hB).more hB.size
      clear hB hBb bz hs8
      have y0 := bz2.out.cell 0; have y1 := bz2.out.cell 1
      simp at y0 y1
      have zz := bz2.out.lt
      go_wp2_with fail
      refine (lbytes_any A7 c7 f u wb hf24 hs9 huI (he.below hBc.out)).mono ?_
      rintro e wd ⟨rfl, hB⟩
      have hBd := hid (hBc.out.trans (hB.mono hBc.out.size))
      have heq : bs (encLay f u) = s := by rw [Hef.out, bs_of]
      have hc1 : ((bs (encLay f u)).toList == s.toList) = true := by rw [heq]; simp
      clear heq
      go_wp2_with fail
      go_ret
      exact ⟨rfl, hBd.out⟩
  | true =>
    have hr1 := hid (readLay_enc l t hrt ht)
    have hen := hid (encLay_len l t hl24 ht)
    clear hrt
    rintro e w2 ⟨rfl, hB⟩
    have hB2 := hid (hB1.out.trans (hB.mono hB1.out.size))
    have b2 := hid (b1.out.below hB b1.out.lt)
    clear hB hB1 b1 x0 x1 z1
    have x0 := b2.out.cell 0; have x1 := b2.out.cell 1
    simp at x0 x1
    have z1 := b2.out.lt
    go_wp2_with fail
    refine (lbytes_any A c l t w2 hl24 ((hs.below hB2.out).more hB2.out.size) ht (he.below hB2.out)).mono ?_
    rintro e w3 ⟨rfl, hB⟩
    have hB3 := hid (hB2.out.trans (hB.mono hB2.out.size))
    have b3 := hid (b2.out.below hB b2.out.lt)
    clear hB hB2 b2 x0 x1 z1
    go_wp2_with fail
    refine (lread_some (bs (encLay l t)) l t w3 (by rw [bs_size]; have := hen.out; omega) (he.below hB3.out) (by rw [show (bs (encLay l t)).data.toList = encLay l t by simp [bs]]; exact hr1.out)).mono ?_
    rintro e w4 ⟨A2, c2, rfl, hs2, hB⟩
    have hB4 := hid (hB3.out.trans (hB.mono hB3.out.size))
    have b4 := hid (b3.out.below hB b3.out.lt)
    clear hB hB3 b3
    have x0 := b4.out.cell 0; have x1 := b4.out.cell 1
    simp at x0 x1
    have z1 := b4.out.lt
    have hB5 := hid (hB4.out.alloc hB4.out.size (Obj.cells #[.slice A2 l.length c2, .int .i64 t] 24))
    have hs5 := (hs2.alloc (Nat.le_refl _) (Obj.cells #[.slice A2 l.length c2, .int .i64 t] 24)).more (B' := (w4.alloc (Obj.cells #[.slice A2 l.length c2, .int .i64 t] 24)).heap.size) (by simp)
    go_wp2_with fail
    refine (same_any A A2 c c2 l l t t _ hl hl ((hs.below hB5.out).more hB5.out.size) hs5).mono ?_
    rw [show sameL l l t t = true by simp [sameL]]
    rintro e w6 ⟨rfl, hB⟩
    have hB6 := hid (hB5.out.trans (hB.mono hB5.out.size))
    clear hB hB5 hB4 b4 x0 x1 z1 hs5 hs2
    go_wp2_with fail
    obtain ⟨f, u, ok, hrd, hcase⟩ := hsec.out w6 hB6.out
    refine hrd.mono ?_
    rintro e wa ⟨A7, c7, rfl, hs7, hB⟩
    have hBa := hid (hB6.out.trans (hB.mono hB6.out.size))
    clear hB hrd hsec
    rcases hcase with ⟨rfl, rfl, rfl⟩ | ⟨rfl, hrf, hef⟩
    · go_wp2_with fail
      go_ret
      exact ⟨rfl, hBa.out.alloc hBa.out.size _⟩
    · have bz := hid (Blk.new wa 24 #[.slice A7 f.length c7, .int .i64 u])
      have hBb := hid (hBa.out.alloc hBa.out.size (Obj.cells #[.slice A7 f.length c7, .int .i64 u] 24))
      have hs8 := (hs7.alloc (Nat.le_refl _) (Obj.cells #[.slice A7 f.length c7, .int .i64 u] 24)).more (B' := (wa.alloc (Obj.cells #[.slice A7 f.length c7, .int .i64 u] 24)).heap.size) (by simp)
      have hf24 := right_len f u hrf
      have huI : I64 u := by
        have h9 := (rightL_iff f u).1 hrf
        exact ⟨by omega, by omega⟩
      have Hrf := hid hrf
      have Hef := hid hef
      clear hrf hef hBa hs7
      go_wp2_with fail
      refine (right_any A7 c7 f u _ (by unfold maxLen; omega) hs8).mono ?_
      rw [Hrf.out]
      rintro e wb ⟨rfl, hB⟩
      have hBc := hid (hBb.out.trans (hB.mono hBb.out.size))
      have bz2 := hid (bz.out.below hB bz.out.lt)
      have hs9 := (hs8.below hB).more hB.size
      clear hB hBb bz hs8
      have y0 := bz2.out.cell 0; have y1 := bz2.out.cell 1
      simp at y0 y1
      have zz := bz2.out.lt
      go_wp2_with fail
      refine (lbytes_any A7 c7 f u wb hf24 hs9 huI (he.below hBc.out)).mono ?_
      rintro e wd ⟨rfl, hB⟩
      have hBd := hid (hBc.out.trans (hB.mono hBc.out.size))
      have heq : bs (encLay f u) = s := by rw [Hef.out, bs_of]
      have hc1 : ((bs (encLay f u)).toList == s.toList) = true := by rw [heq]; simp
      clear heq
      go_wp2_with fail
      go_ret
      exact ⟨rfl, hBd.out⟩
end Go.Proofs.YtnnephifjikkdaaDoor
