/- Wire: WirePrefix, the walk. -/
import Derived.Test.YtjdblegmpmampaaDoorWireU
set_option linter.unusedSimpArgs false
set_option linter.unusedVariables false
namespace Go.Proofs.YtjdblegmpmampaaDoor
open Go.RowKit Go.IntWalk

theorem pfx {α : Type} {f : List UInt8 → Option (α × List UInt8)} {a b : α} {ea eb rest : List UInt8} (h1 : f (ea ++ rest) = some (a, rest)) (h2 : f (eb ++ []) = some (b, [])) (h : eb = ea ++ rest) : rest = [] := by
  rw [List.append_nil, h, h1] at h2
  simp only [Option.some.injEq, Prod.mk.injEq] at h2
  exact h2.2
theorem encV_pfx {v u : Val} {rest : List UInt8} (hk : kd v.1 = kd u.1) (ov : Ok v) (ou : Ok u) (iv : I64 v.2.1) (iu : I64 u.2.1) (jv : ∀ x ∈ v.2.2.2.1, I64 x) (ju : ∀ x ∈ u.2.2.2.1, I64 x) (h : encV u = encV v ++ rest) : rest = [] := by
  have tl : ∀ (x : Val), Ok x → ∀ (r : List UInt8), textL (encT x.2.2.1.data.toList ++ r) = some (x.2.2.1.data.toList, r) := fun x o r => textL_encT _ r (by rw [← size_list]; have := o.s; omega)
  have il : ∀ (n : Int), I64 n → ∀ (r : List UInt8), numL (encI n ++ r) 59 (-9223372036854775808) = some (n, r) := fun n hn r => intL_enc n hn r
  have nl : ∀ (x : Val), Ok x → (∀ y ∈ x.2.2.2.1, I64 y) → ∀ (r : List UInt8), listL fI (encL (x.2.2.2.1.map encI) ++ r) = some (x.2.2.2.1, r) := fun x o hi r => listL_enc fI encI _ r (by have := o.l; omega) (fun y hy r => intL_enc y (hi y hy) r)
  have sl : ∀ (x : Val), Ok x → ∀ (r : List UInt8), listL textL (encL (x.2.2.2.2.map encB) ++ r) = some (x.2.2.2.2.map (fun s => s.data.toList), r) := fun x o r => by
    rw [← toL_enc]
    exact listL_enc textL encT _ r (by rw [List.length_map]; have := o.t; omega) (fun y hy r => textL_encT y r (by
      obtain ⟨z, hz, rfl⟩ := List.mem_map.1 hy
      have := o.e z hz
      rw [← size_list]
      omega))
  unfold encV at h
  rw [← hk] at h
  split at h
  · exact pfx (f := fI) (il _ (nn_bd _ iv).2 rest) (il _ (nn_bd _ iu).2 []) h
  split at h
  · exact pfx (f := fI) (il _ iv rest) (il _ iu []) h
  split at h
  · exact pfx (tl v ov rest) (tl u ou []) h
  split at h
  · exact pfx (nl v ov jv rest) (nl u ou ju []) h
  · exact pfx (sl v ov rest) (sl u ou []) h

structure PfxW (w : World) (a b : Array Value) (wx : World) : Prop where
  below : Below w.heap.size w wx
  b1 : Blk wx w.heap.size 25 a
  b2 : Blk wx (w.heap.size + 1) 25 b
theorem PfxW.step {w wx wy : World} {a b : Array Value} (h : PfxW w a b wx) (hb : Below wx.heap.size wx wy) : PfxW w a b wy :=
  ⟨h.below.trans (hb.mono h.below.size), h.b1.below hb h.b1.lt, h.b2.below hb h.b2.lt⟩
theorem PfxW.alloc {w wx : World} {a b : Array Value} (h : PfxW w a b wx) (o : Obj) : PfxW w a b (wx.alloc o) := h.step (by (repeat (first | exact Below.refl _ _ | assumption | refine below_drewN ?_ _ | refine Below.drew ?_ | refine Below.alloc ?_ (by (try simp); (try omega)) _ | refine Below.setCell ?_ (by (try simp); (try omega)) _)))
theorem below_then {w X w2 : World} (h : Below w.heap.size w X) (hb : Below X.heap.size X w2) : Below w.heap.size w w2 := h.trans (hb.mono h.size)
theorem PfxW.drew {w wx : World} {a b : Array Value} (h : PfxW w a b wx) : PfxW w a b wx.drew := h.step (by (repeat (first | exact Below.refl _ _ | assumption | refine below_drewN ?_ _ | refine Below.drew ?_ | refine Below.alloc ?_ (by (try simp); (try omega)) _ | refine Below.setCell ?_ (by (try simp); (try omega)) _)))

set_option maxRecDepth 20000 in
set_option maxHeartbeats 4000000 in
theorem prefix_a (v0 v1 : Int) (S : ByteArray) (A1 : Option Addr) (c1 : Nat) (L : List Int) (A2 : Option Addr) (c2 : Nat) (T : List ByteArray)
    (u0 u1 : Int) (R : ByteArray) (B1 : Option Addr) (d1 : Nat) (M : List Int) (B2 : Option Addr) (d2 : Nat) (U : List ByteArray) (w : World)
    (h0 : I64 v0) (h1 : I64 v1) (h2 : S.size ≤ maxLen) (h3 : L.length ≤ c1) (h4 : c1 ≤ maxLen) (h5 : SlR w w.heap.size A1 L) (h6 : T.length ≤ c2) (h7 : c2 ≤ maxLen) (h8 : SlR w w.heap.size A2 T)
    (j0 : I64 u0) (j1 : I64 u1) (j2 : R.size ≤ maxLen) (j3 : M.length ≤ d1) (j4 : d1 ≤ maxLen) (j5 : SlR w w.heap.size B1 M) (j6 : U.length ≤ d2) (j7 : d2 ≤ maxLen) (j8 : SlR w w.heap.size B2 U) (he : Env w) (hf : fewB [((v0, v1, S, L, T) : Val)] = false) :
    Calls Tryd.prog 5 #[.agg #[.int .i64 v0, .int .i64 v1, .string S, .slice A1 L.length c1, .slice A2 T.length c2], .agg #[.int .i64 u0, .int .i64 u1, .string R, .slice B1 M.length d1, .slice B2 U.length d2]] w fun e w' => e = .returned (.bool true) ∧ Below w.heap.size w w' := by
  have hf1 : Hid (∀ (W : World) (g : Nat), PfxW w #[.int .i64 v0, .int .i64 v1, .string S, .slice A1 L.length c1, .slice A2 T.length c2] #[.int .i64 u0, .int .i64 u1, .string R, .slice B1 M.length d1, .slice B2 U.length d2] W → Blk W g 25 #[.int .i64 v0, .int .i64 v1, .string S, .slice A1 L.length c1, .slice A2 T.length c2] → Calls Tryd.prog 10 #[.slice (some ⟨g, 0, none⟩) 1 1] W fun e w' => e = .returned (.bool false) ∧ PfxW w #[.int .i64 v0, .int .i64 v1, .string S, .slice A1 L.length c1, .slice A2 T.length c2] #[.int .i64 u0, .int .i64 u1, .string R, .slice B1 M.length d1, .slice B2 U.length d2] w' ∧ ∀ g' t' cs', Blk W g' t' cs' → Blk w' g' t' cs') := hid (by
    intro W g hp hb
    have := few_any (some ⟨g, 0, none⟩) 1 [((v0, v1, S, L, T) : Val)] W (by simp [maxLen]) (slr_one hb hb.lt h0 h1 h2 h3 h4 ((h5.below hp.below).more hp.below.size) h6 h7 ((h8.below hp.below).more hp.below.size))
    rw [hf] at this
    exact this.mono fun e w' ⟨h1, h2⟩ => ⟨h1, hp.step h2, fun g' t' cs' hk => hk.below h2 hk.lt⟩)
  clear hf
  have p0 : PfxW w #[.int .i64 v0, .int .i64 v1, .string S, .slice A1 L.length c1, .slice A2 T.length c2] #[.int .i64 u0, .int .i64 u1, .string R, .slice B1 M.length d1, .slice B2 U.length d2] ((w.alloc (Obj.cells #[.int .i64 v0, .int .i64 v1, .string S, .slice A1 L.length c1, .slice A2 T.length c2] 25)).alloc (Obj.cells #[.int .i64 u0, .int .i64 u1, .string R, .slice B1 M.length d1, .slice B2 U.length d2] 25)) :=
    ⟨by (repeat (first | exact Below.refl _ _ | assumption | refine below_drewN ?_ _ | refine Below.drew ?_ | refine Below.alloc ?_ (by (try simp); (try omega)) _ | refine Below.setCell ?_ (by (try simp); (try omega)) _)), (Blk.new _ _ _).alloc _, Blk.new_at (by simp)⟩
  go_enter Tryd.func5, Tryd.ntmps5
  go_wp2_with fail
  refine (small_any _ (he.below p0.below)).mono ?_
  rintro e w1 ⟨rfl, hB⟩
  have p1 := p0.step hB
  clear hB p0
  have x0 := p1.b1.cell 0; have y0 := p1.b2.cell 0; have x1 := p1.b1.cell 1; have y1 := p1.b2.cell 1; have x2 := p1.b1.cell 2; have y2 := p1.b2.cell 2; have x3 := p1.b1.cell 3; have y3 := p1.b2.cell 3; have x4 := p1.b1.cell 4; have y4 := p1.b2.cell 4; simp at x0 y0 x1 y1 x2 y2 x3 y3 x4 y4
  go_upto_region 2 with fail
  go_region_with (first
    |   (go_at_call 10; (with_reducible refine (hf1.out _ _ ?_ ?_).mono ?_); (repeat (first | assumption | refine PfxW.drew ?_ | refine PfxW.alloc ?_ _)); (first | (refine (Blk.new_at ?_).drew; (focus (simp; done))) | (refine Blk.new_at ?_; (focus (simp; done)))); rintro e w2 ⟨rfl, p2, k2⟩; have x20 := p2.b1.cell 0; have y20 := p2.b2.cell 0; have x21 := p2.b1.cell 1; have y21 := p2.b2.cell 1; have x22 := p2.b1.cell 2; have y22 := p2.b2.cell 2; have x23 := p2.b1.cell 3; have y23 := p2.b2.cell 3; have x24 := p2.b1.cell 4; have y24 := p2.b2.cell 4; simp at x20 y20 x21 y21 x22 y22 x23 y23 x24 y24))
  all_goals
    go_wp2_with fail
    go_ret
    exact ⟨rfl, PfxW.below (by (repeat (first | assumption | refine PfxW.drew ?_ | refine PfxW.alloc ?_ _)))⟩

set_option maxRecDepth 20000 in
set_option maxHeartbeats 4000000 in
theorem prefix_b (v0 v1 : Int) (S : ByteArray) (A1 : Option Addr) (c1 : Nat) (L : List Int) (A2 : Option Addr) (c2 : Nat) (T : List ByteArray)
    (u0 u1 : Int) (R : ByteArray) (B1 : Option Addr) (d1 : Nat) (M : List Int) (B2 : Option Addr) (d2 : Nat) (U : List ByteArray) (w : World)
    (h0 : I64 v0) (h1 : I64 v1) (h2 : S.size ≤ maxLen) (h3 : L.length ≤ c1) (h4 : c1 ≤ maxLen) (h5 : SlR w w.heap.size A1 L) (h6 : T.length ≤ c2) (h7 : c2 ≤ maxLen) (h8 : SlR w w.heap.size A2 T)
    (j0 : I64 u0) (j1 : I64 u1) (j2 : R.size ≤ maxLen) (j3 : M.length ≤ d1) (j4 : d1 ≤ maxLen) (j5 : SlR w w.heap.size B1 M) (j6 : U.length ≤ d2) (j7 : d2 ≤ maxLen) (j8 : SlR w w.heap.size B2 U) (he : Env w) (hf : fewB [((v0, v1, S, L, T) : Val)] = true) (hg : fewB [((u0, u1, R, M, U) : Val)] = false) :
    Calls Tryd.prog 5 #[.agg #[.int .i64 v0, .int .i64 v1, .string S, .slice A1 L.length c1, .slice A2 T.length c2], .agg #[.int .i64 u0, .int .i64 u1, .string R, .slice B1 M.length d1, .slice B2 U.length d2]] w fun e w' => e = .returned (.bool true) ∧ Below w.heap.size w w' := by
  have hf1 : Hid (∀ (W : World) (g : Nat), PfxW w #[.int .i64 v0, .int .i64 v1, .string S, .slice A1 L.length c1, .slice A2 T.length c2] #[.int .i64 u0, .int .i64 u1, .string R, .slice B1 M.length d1, .slice B2 U.length d2] W → Blk W g 25 #[.int .i64 v0, .int .i64 v1, .string S, .slice A1 L.length c1, .slice A2 T.length c2] → Calls Tryd.prog 10 #[.slice (some ⟨g, 0, none⟩) 1 1] W fun e w' => e = .returned (.bool true) ∧ PfxW w #[.int .i64 v0, .int .i64 v1, .string S, .slice A1 L.length c1, .slice A2 T.length c2] #[.int .i64 u0, .int .i64 u1, .string R, .slice B1 M.length d1, .slice B2 U.length d2] w' ∧ ∀ g' t' cs', Blk W g' t' cs' → Blk w' g' t' cs') := hid (by
    intro W g hp hb
    have := few_any (some ⟨g, 0, none⟩) 1 [((v0, v1, S, L, T) : Val)] W (by simp [maxLen]) (slr_one hb hb.lt h0 h1 h2 h3 h4 ((h5.below hp.below).more hp.below.size) h6 h7 ((h8.below hp.below).more hp.below.size))
    rw [hf] at this
    exact this.mono fun e w' ⟨h1, h2⟩ => ⟨h1, hp.step h2, fun g' t' cs' hk => hk.below h2 hk.lt⟩)
  have hf2 : Hid (∀ (W : World) (g : Nat), PfxW w #[.int .i64 v0, .int .i64 v1, .string S, .slice A1 L.length c1, .slice A2 T.length c2] #[.int .i64 u0, .int .i64 u1, .string R, .slice B1 M.length d1, .slice B2 U.length d2] W → Blk W g 25 #[.int .i64 u0, .int .i64 u1, .string R, .slice B1 M.length d1, .slice B2 U.length d2] → Calls Tryd.prog 10 #[.slice (some ⟨g, 0, none⟩) 1 1] W fun e w' => e = .returned (.bool false) ∧ PfxW w #[.int .i64 v0, .int .i64 v1, .string S, .slice A1 L.length c1, .slice A2 T.length c2] #[.int .i64 u0, .int .i64 u1, .string R, .slice B1 M.length d1, .slice B2 U.length d2] w' ∧ ∀ g' t' cs', Blk W g' t' cs' → Blk w' g' t' cs') := hid (by
    intro W g hp hb
    have := few_any (some ⟨g, 0, none⟩) 1 [((u0, u1, R, M, U) : Val)] W (by simp [maxLen]) (slr_one hb hb.lt j0 j1 j2 j3 j4 ((j5.below hp.below).more hp.below.size) j6 j7 ((j8.below hp.below).more hp.below.size))
    rw [hg] at this
    exact this.mono fun e w' ⟨h1, h2⟩ => ⟨h1, hp.step h2, fun g' t' cs' hk => hk.below h2 hk.lt⟩)
  clear hf hg
  have p0 : PfxW w #[.int .i64 v0, .int .i64 v1, .string S, .slice A1 L.length c1, .slice A2 T.length c2] #[.int .i64 u0, .int .i64 u1, .string R, .slice B1 M.length d1, .slice B2 U.length d2] ((w.alloc (Obj.cells #[.int .i64 v0, .int .i64 v1, .string S, .slice A1 L.length c1, .slice A2 T.length c2] 25)).alloc (Obj.cells #[.int .i64 u0, .int .i64 u1, .string R, .slice B1 M.length d1, .slice B2 U.length d2] 25)) :=
    ⟨by (repeat (first | exact Below.refl _ _ | assumption | refine below_drewN ?_ _ | refine Below.drew ?_ | refine Below.alloc ?_ (by (try simp); (try omega)) _ | refine Below.setCell ?_ (by (try simp); (try omega)) _)), (Blk.new _ _ _).alloc _, Blk.new_at (by simp)⟩
  go_enter Tryd.func5, Tryd.ntmps5
  go_wp2_with fail
  refine (small_any _ (he.below p0.below)).mono ?_
  rintro e w1 ⟨rfl, hB⟩
  have p1 := p0.step hB
  clear hB p0
  have x0 := p1.b1.cell 0; have y0 := p1.b2.cell 0; have x1 := p1.b1.cell 1; have y1 := p1.b2.cell 1; have x2 := p1.b1.cell 2; have y2 := p1.b2.cell 2; have x3 := p1.b1.cell 3; have y3 := p1.b2.cell 3; have x4 := p1.b1.cell 4; have y4 := p1.b2.cell 4; simp at x0 y0 x1 y1 x2 y2 x3 y3 x4 y4
  go_upto_region 2 with fail
  go_region_with (first
    | (go_at_call 10; (with_reducible refine (hf1.out _ _ ?_ ?_).mono ?_); (repeat (first | assumption | refine PfxW.drew ?_ | refine PfxW.alloc ?_ _)); (first | (refine (Blk.new_at ?_).drew; (focus (simp; done))) | (refine Blk.new_at ?_; (focus (simp; done)))); rintro e w2 ⟨rfl, p2, k2⟩; have x20 := p2.b1.cell 0; have y20 := p2.b2.cell 0; have x21 := p2.b1.cell 1; have y21 := p2.b2.cell 1; have x22 := p2.b1.cell 2; have y22 := p2.b2.cell 2; have x23 := p2.b1.cell 3; have y23 := p2.b2.cell 3; have x24 := p2.b1.cell 4; have y24 := p2.b2.cell 4; simp at x20 y20 x21 y21 x22 y22 x23 y23 x24 y24)
    | (go_at_call 10; (with_reducible refine (hf2.out _ _ ?_ ?_).mono ?_); (repeat (first | assumption | refine PfxW.drew ?_ | refine PfxW.alloc ?_ _)); (first | (refine (Blk.new_at ?_).drew; (focus (simp; done))) | (refine Blk.new_at ?_; (focus (simp; done))) | (refine k2 _ _ _ ?_; refine (Blk.new_at ?_).drew; (focus (simp; done))) | (refine Blk.drew ?_; refine k2 _ _ _ ?_; refine (Blk.new_at ?_).drew; (focus (simp; done)))); rintro e w3 ⟨rfl, p3, k3⟩; have x30 := p3.b1.cell 0; have y30 := p3.b2.cell 0; have x31 := p3.b1.cell 1; have y31 := p3.b2.cell 1; have x32 := p3.b1.cell 2; have y32 := p3.b2.cell 2; have x33 := p3.b1.cell 3; have y33 := p3.b2.cell 3; have x34 := p3.b1.cell 4; have y34 := p3.b2.cell 4; simp at x30 y30 x31 y31 x32 y32 x33 y33 x34 y34))
  all_goals
    go_wp2_with fail
    go_ret
    exact ⟨rfl, PfxW.below (by (repeat (first | assumption | refine PfxW.drew ?_ | refine PfxW.alloc ?_ _)))⟩

set_option maxRecDepth 20000 in
set_option maxHeartbeats 4000000 in
theorem prefix_c (v0 v1 : Int) (S : ByteArray) (A1 : Option Addr) (c1 : Nat) (L : List Int) (A2 : Option Addr) (c2 : Nat) (T : List ByteArray)
    (u0 u1 : Int) (R : ByteArray) (B1 : Option Addr) (d1 : Nat) (M : List Int) (B2 : Option Addr) (d2 : Nat) (U : List ByteArray) (w : World)
    (h0 : I64 v0) (h1 : I64 v1) (h2 : S.size ≤ maxLen) (h3 : L.length ≤ c1) (h4 : c1 ≤ maxLen) (h5 : SlR w w.heap.size A1 L) (h6 : T.length ≤ c2) (h7 : c2 ≤ maxLen) (h8 : SlR w w.heap.size A2 T)
    (j0 : I64 u0) (j1 : I64 u1) (j2 : R.size ≤ maxLen) (j3 : M.length ≤ d1) (j4 : d1 ≤ maxLen) (j5 : SlR w w.heap.size B1 M) (j6 : U.length ≤ d2) (j7 : d2 ≤ maxLen) (j8 : SlR w w.heap.size B2 U) (he : Env w) (hf : fewB [((v0, v1, S, L, T) : Val)] = true) (hg : fewB [((u0, u1, R, M, U) : Val)] = true) (hk : (kd v0 == kd u0) = false) :
    Calls Tryd.prog 5 #[.agg #[.int .i64 v0, .int .i64 v1, .string S, .slice A1 L.length c1, .slice A2 T.length c2], .agg #[.int .i64 u0, .int .i64 u1, .string R, .slice B1 M.length d1, .slice B2 U.length d2]] w fun e w' => e = .returned (.bool true) ∧ Below w.heap.size w w' := by
  have hf1 : Hid (∀ (W : World) (g : Nat), PfxW w #[.int .i64 v0, .int .i64 v1, .string S, .slice A1 L.length c1, .slice A2 T.length c2] #[.int .i64 u0, .int .i64 u1, .string R, .slice B1 M.length d1, .slice B2 U.length d2] W → Blk W g 25 #[.int .i64 v0, .int .i64 v1, .string S, .slice A1 L.length c1, .slice A2 T.length c2] → Calls Tryd.prog 10 #[.slice (some ⟨g, 0, none⟩) 1 1] W fun e w' => e = .returned (.bool true) ∧ PfxW w #[.int .i64 v0, .int .i64 v1, .string S, .slice A1 L.length c1, .slice A2 T.length c2] #[.int .i64 u0, .int .i64 u1, .string R, .slice B1 M.length d1, .slice B2 U.length d2] w' ∧ ∀ g' t' cs', Blk W g' t' cs' → Blk w' g' t' cs') := hid (by
    intro W g hp hb
    have := few_any (some ⟨g, 0, none⟩) 1 [((v0, v1, S, L, T) : Val)] W (by simp [maxLen]) (slr_one hb hb.lt h0 h1 h2 h3 h4 ((h5.below hp.below).more hp.below.size) h6 h7 ((h8.below hp.below).more hp.below.size))
    rw [hf] at this
    exact this.mono fun e w' ⟨h1, h2⟩ => ⟨h1, hp.step h2, fun g' t' cs' hk => hk.below h2 hk.lt⟩)
  have hf2 : Hid (∀ (W : World) (g : Nat), PfxW w #[.int .i64 v0, .int .i64 v1, .string S, .slice A1 L.length c1, .slice A2 T.length c2] #[.int .i64 u0, .int .i64 u1, .string R, .slice B1 M.length d1, .slice B2 U.length d2] W → Blk W g 25 #[.int .i64 u0, .int .i64 u1, .string R, .slice B1 M.length d1, .slice B2 U.length d2] → Calls Tryd.prog 10 #[.slice (some ⟨g, 0, none⟩) 1 1] W fun e w' => e = .returned (.bool true) ∧ PfxW w #[.int .i64 v0, .int .i64 v1, .string S, .slice A1 L.length c1, .slice A2 T.length c2] #[.int .i64 u0, .int .i64 u1, .string R, .slice B1 M.length d1, .slice B2 U.length d2] w' ∧ ∀ g' t' cs', Blk W g' t' cs' → Blk w' g' t' cs') := hid (by
    intro W g hp hb
    have := few_any (some ⟨g, 0, none⟩) 1 [((u0, u1, R, M, U) : Val)] W (by simp [maxLen]) (slr_one hb hb.lt j0 j1 j2 j3 j4 ((j5.below hp.below).more hp.below.size) j6 j7 ((j8.below hp.below).more hp.below.size))
    rw [hg] at this
    exact this.mono fun e w' ⟨h1, h2⟩ => ⟨h1, hp.step h2, fun g' t' cs' hk => hk.below h2 hk.lt⟩)
  have hk1 : Hid (∀ (W : World), PfxW w #[.int .i64 v0, .int .i64 v1, .string S, .slice A1 L.length c1, .slice A2 T.length c2] #[.int .i64 u0, .int .i64 u1, .string R, .slice B1 M.length d1, .slice B2 U.length d2] W → Calls Tryd.prog 22 #[.agg #[.int .i64 v0, .int .i64 v1, .string S, .slice A1 L.length c1, .slice A2 T.length c2]] W fun e w' => e = .returned (.int .i64 (kd v0)) ∧ PfxW w #[.int .i64 v0, .int .i64 v1, .string S, .slice A1 L.length c1, .slice A2 T.length c2] #[.int .i64 u0, .int .i64 u1, .string R, .slice B1 M.length d1, .slice B2 U.length d2] w' ∧ ∀ g' t' cs', Blk W g' t' cs' → Blk w' g' t' cs') := hid (by
    intro W hp
    exact (kind_any v0 v1 S A1 _ c1 A2 _ c2 W h0).mono fun e w' ⟨h1, h2⟩ => ⟨h1, hp.step h2, fun g' t' cs' hk => hk.below h2 hk.lt⟩)
  have hk2 : Hid (∀ (W : World), PfxW w #[.int .i64 v0, .int .i64 v1, .string S, .slice A1 L.length c1, .slice A2 T.length c2] #[.int .i64 u0, .int .i64 u1, .string R, .slice B1 M.length d1, .slice B2 U.length d2] W → Calls Tryd.prog 22 #[.agg #[.int .i64 u0, .int .i64 u1, .string R, .slice B1 M.length d1, .slice B2 U.length d2]] W fun e w' => e = .returned (.int .i64 (kd u0)) ∧ PfxW w #[.int .i64 v0, .int .i64 v1, .string S, .slice A1 L.length c1, .slice A2 T.length c2] #[.int .i64 u0, .int .i64 u1, .string R, .slice B1 M.length d1, .slice B2 U.length d2] w' ∧ ∀ g' t' cs', Blk W g' t' cs' → Blk w' g' t' cs') := hid (by
    intro W hp
    exact (kind_any u0 u1 R B1 _ d1 B2 _ d2 W j0).mono fun e w' ⟨h1, h2⟩ => ⟨h1, hp.step h2, fun g' t' cs' hk => hk.below h2 hk.lt⟩)
  clear hf hg
  have p0 : PfxW w #[.int .i64 v0, .int .i64 v1, .string S, .slice A1 L.length c1, .slice A2 T.length c2] #[.int .i64 u0, .int .i64 u1, .string R, .slice B1 M.length d1, .slice B2 U.length d2] ((w.alloc (Obj.cells #[.int .i64 v0, .int .i64 v1, .string S, .slice A1 L.length c1, .slice A2 T.length c2] 25)).alloc (Obj.cells #[.int .i64 u0, .int .i64 u1, .string R, .slice B1 M.length d1, .slice B2 U.length d2] 25)) :=
    ⟨by (repeat (first | exact Below.refl _ _ | assumption | refine below_drewN ?_ _ | refine Below.drew ?_ | refine Below.alloc ?_ (by (try simp); (try omega)) _ | refine Below.setCell ?_ (by (try simp); (try omega)) _)), (Blk.new _ _ _).alloc _, Blk.new_at (by simp)⟩
  go_enter Tryd.func5, Tryd.ntmps5
  go_wp2_with fail
  refine (small_any _ (he.below p0.below)).mono ?_
  rintro e w1 ⟨rfl, hB⟩
  have p1 := p0.step hB
  clear hB p0
  have x0 := p1.b1.cell 0; have y0 := p1.b2.cell 0; have x1 := p1.b1.cell 1; have y1 := p1.b2.cell 1; have x2 := p1.b1.cell 2; have y2 := p1.b2.cell 2; have x3 := p1.b1.cell 3; have y3 := p1.b2.cell 3; have x4 := p1.b1.cell 4; have y4 := p1.b2.cell 4; simp at x0 y0 x1 y1 x2 y2 x3 y3 x4 y4
  go_upto_region 2 with fail
  go_region_held3 (fun w' => w'.cell? ⟨w.heap.size, 0, none⟩ = some (.int .i64 v0) ∧ w'.cell? ⟨w.heap.size, 1, none⟩ = some (.int .i64 v1) ∧ w'.cell? ⟨w.heap.size, 2, none⟩ = some (.string S) ∧ w'.cell? ⟨w.heap.size, 3, none⟩ = some (.slice A1 L.length c1) ∧ w'.cell? ⟨w.heap.size, 4, none⟩ = some (.slice A2 T.length c2) ∧ w'.cell? ⟨w.heap.size + 1, 0, none⟩ = some (.int .i64 u0) ∧ w'.cell? ⟨w.heap.size + 1, 1, none⟩ = some (.int .i64 u1) ∧ w'.cell? ⟨w.heap.size + 1, 2, none⟩ = some (.string R) ∧ w'.cell? ⟨w.heap.size + 1, 3, none⟩ = some (.slice B1 M.length d1) ∧ w'.cell? ⟨w.heap.size + 1, 4, none⟩ = some (.slice B2 U.length d2))
    (first | assumption | go_keep)
    (first
    | (go_at_call 10; (with_reducible refine (hf1.out _ _ ?_ ?_).mono ?_); (repeat (first | assumption | refine PfxW.drew ?_ | refine PfxW.alloc ?_ _)); (first | (refine (Blk.new_at ?_).drew; (focus (simp; done))) | (refine Blk.new_at ?_; (focus (simp; done)))); rintro e w2 ⟨rfl, p2, k2⟩; have x20 := p2.b1.cell 0; have y20 := p2.b2.cell 0; have x21 := p2.b1.cell 1; have y21 := p2.b2.cell 1; have x22 := p2.b1.cell 2; have y22 := p2.b2.cell 2; have x23 := p2.b1.cell 3; have y23 := p2.b2.cell 3; have x24 := p2.b1.cell 4; have y24 := p2.b2.cell 4; simp at x20 y20 x21 y21 x22 y22 x23 y23 x24 y24)
    | (go_at_call 10; (with_reducible refine (hf2.out _ _ ?_ ?_).mono ?_); (repeat (first | assumption | refine PfxW.drew ?_ | refine PfxW.alloc ?_ _)); (first | (refine (Blk.new_at ?_).drew; (focus (simp; done))) | (refine Blk.new_at ?_; (focus (simp; done))) | (refine k2 _ _ _ ?_; refine (Blk.new_at ?_).drew; (focus (simp; done))) | (refine Blk.drew ?_; refine k2 _ _ _ ?_; refine (Blk.new_at ?_).drew; (focus (simp; done)))); rintro e w3 ⟨rfl, p3, k3⟩; have x30 := p3.b1.cell 0; have y30 := p3.b2.cell 0; have x31 := p3.b1.cell 1; have y31 := p3.b2.cell 1; have x32 := p3.b1.cell 2; have y32 := p3.b2.cell 2; have x33 := p3.b1.cell 3; have y33 := p3.b2.cell 3; have x34 := p3.b1.cell 4; have y34 := p3.b2.cell 4; simp at x30 y30 x31 y31 x32 y32 x33 y33 x34 y34)
    | (go_at_call 22; (with_reducible refine (hk1.out _ ?_).mono ?_); (repeat (first | assumption | refine PfxW.drew ?_ | refine PfxW.alloc ?_ _)); rintro e w4 ⟨rfl, p4, k4⟩; have x40 := p4.b1.cell 0; have y40 := p4.b2.cell 0; have x41 := p4.b1.cell 1; have y41 := p4.b2.cell 1; have x42 := p4.b1.cell 2; have y42 := p4.b2.cell 2; have x43 := p4.b1.cell 3; have y43 := p4.b2.cell 3; have x44 := p4.b1.cell 4; have y44 := p4.b2.cell 4; simp at x40 y40 x41 y41 x42 y42 x43 y43 x44 y44)
    | (go_at_call 22; (with_reducible refine (hk2.out _ ?_).mono ?_); (repeat (first | assumption | refine PfxW.drew ?_ | refine PfxW.alloc ?_ _)); rintro e w5 ⟨rfl, p5, k5⟩; have x50 := p5.b1.cell 0; have y50 := p5.b2.cell 0; have x51 := p5.b1.cell 1; have y51 := p5.b2.cell 1; have x52 := p5.b1.cell 2; have y52 := p5.b2.cell 2; have x53 := p5.b1.cell 3; have y53 := p5.b2.cell 3; have x54 := p5.b1.cell 4; have y54 := p5.b2.cell 4; simp at x50 y50 x51 y51 x52 y52 x53 y53 x54 y54))
  all_goals
    go_wp2_with fail
    go_ret
    exact ⟨rfl, PfxW.below (by (repeat (first | assumption | refine PfxW.drew ?_ | refine PfxW.alloc ?_ _)))⟩

set_option maxRecDepth 20000 in
set_option maxHeartbeats 4000000 in
theorem prefix_d (v0 v1 : Int) (S : ByteArray) (A1 : Option Addr) (c1 : Nat) (L : List Int) (A2 : Option Addr) (c2 : Nat) (T : List ByteArray)
    (u0 u1 : Int) (R : ByteArray) (B1 : Option Addr) (d1 : Nat) (M : List Int) (B2 : Option Addr) (d2 : Nat) (U : List ByteArray) (w : World)
    (h0 : I64 v0) (h1 : I64 v1) (h2 : S.size ≤ maxLen) (h3 : L.length ≤ c1) (h4 : c1 ≤ maxLen) (h5 : SlR w w.heap.size A1 L) (h6 : T.length ≤ c2) (h7 : c2 ≤ maxLen) (h8 : SlR w w.heap.size A2 T)
    (j0 : I64 u0) (j1 : I64 u1) (j2 : R.size ≤ maxLen) (j3 : M.length ≤ d1) (j4 : d1 ≤ maxLen) (j5 : SlR w w.heap.size B1 M) (j6 : U.length ≤ d2) (j7 : d2 ≤ maxLen) (j8 : SlR w w.heap.size B2 U) (he : Env w) (hf : fewB [((v0, v1, S, L, T) : Val)] = true) (hg : fewB [((u0, u1, R, M, U) : Val)] = true) (hk : kd v0 = kd u0) :
    Calls Tryd.prog 5 #[.agg #[.int .i64 v0, .int .i64 v1, .string S, .slice A1 L.length c1, .slice A2 T.length c2], .agg #[.int .i64 u0, .int .i64 u1, .string R, .slice B1 M.length d1, .slice B2 U.length d2]] w fun e w' => e = .returned (.bool true) ∧ Below w.heap.size w w' := by
  have hf1 : Hid (∀ (W : World) (g : Nat), PfxW w #[.int .i64 v0, .int .i64 v1, .string S, .slice A1 L.length c1, .slice A2 T.length c2] #[.int .i64 u0, .int .i64 u1, .string R, .slice B1 M.length d1, .slice B2 U.length d2] W → Blk W g 25 #[.int .i64 v0, .int .i64 v1, .string S, .slice A1 L.length c1, .slice A2 T.length c2] → Calls Tryd.prog 10 #[.slice (some ⟨g, 0, none⟩) 1 1] W fun e w' => e = .returned (.bool true) ∧ PfxW w #[.int .i64 v0, .int .i64 v1, .string S, .slice A1 L.length c1, .slice A2 T.length c2] #[.int .i64 u0, .int .i64 u1, .string R, .slice B1 M.length d1, .slice B2 U.length d2] w' ∧ ∀ g' t' cs', Blk W g' t' cs' → Blk w' g' t' cs') := hid (by
    intro W g hp hb
    have := few_any (some ⟨g, 0, none⟩) 1 [((v0, v1, S, L, T) : Val)] W (by simp [maxLen]) (slr_one hb hb.lt h0 h1 h2 h3 h4 ((h5.below hp.below).more hp.below.size) h6 h7 ((h8.below hp.below).more hp.below.size))
    rw [hf] at this
    exact this.mono fun e w' ⟨h1, h2⟩ => ⟨h1, hp.step h2, fun g' t' cs' hk => hk.below h2 hk.lt⟩)
  have hf2 : Hid (∀ (W : World) (g : Nat), PfxW w #[.int .i64 v0, .int .i64 v1, .string S, .slice A1 L.length c1, .slice A2 T.length c2] #[.int .i64 u0, .int .i64 u1, .string R, .slice B1 M.length d1, .slice B2 U.length d2] W → Blk W g 25 #[.int .i64 u0, .int .i64 u1, .string R, .slice B1 M.length d1, .slice B2 U.length d2] → Calls Tryd.prog 10 #[.slice (some ⟨g, 0, none⟩) 1 1] W fun e w' => e = .returned (.bool true) ∧ PfxW w #[.int .i64 v0, .int .i64 v1, .string S, .slice A1 L.length c1, .slice A2 T.length c2] #[.int .i64 u0, .int .i64 u1, .string R, .slice B1 M.length d1, .slice B2 U.length d2] w' ∧ ∀ g' t' cs', Blk W g' t' cs' → Blk w' g' t' cs') := hid (by
    intro W g hp hb
    have := few_any (some ⟨g, 0, none⟩) 1 [((u0, u1, R, M, U) : Val)] W (by simp [maxLen]) (slr_one hb hb.lt j0 j1 j2 j3 j4 ((j5.below hp.below).more hp.below.size) j6 j7 ((j8.below hp.below).more hp.below.size))
    rw [hg] at this
    exact this.mono fun e w' ⟨h1, h2⟩ => ⟨h1, hp.step h2, fun g' t' cs' hk => hk.below h2 hk.lt⟩)
  have hk1 : Hid (∀ (W : World), PfxW w #[.int .i64 v0, .int .i64 v1, .string S, .slice A1 L.length c1, .slice A2 T.length c2] #[.int .i64 u0, .int .i64 u1, .string R, .slice B1 M.length d1, .slice B2 U.length d2] W → Calls Tryd.prog 22 #[.agg #[.int .i64 v0, .int .i64 v1, .string S, .slice A1 L.length c1, .slice A2 T.length c2]] W fun e w' => e = .returned (.int .i64 (kd v0)) ∧ PfxW w #[.int .i64 v0, .int .i64 v1, .string S, .slice A1 L.length c1, .slice A2 T.length c2] #[.int .i64 u0, .int .i64 u1, .string R, .slice B1 M.length d1, .slice B2 U.length d2] w' ∧ ∀ g' t' cs', Blk W g' t' cs' → Blk w' g' t' cs') := hid (by
    intro W hp
    exact (kind_any v0 v1 S A1 _ c1 A2 _ c2 W h0).mono fun e w' ⟨h1, h2⟩ => ⟨h1, hp.step h2, fun g' t' cs' hk => hk.below h2 hk.lt⟩)
  have hk2 : Hid (∀ (W : World), PfxW w #[.int .i64 v0, .int .i64 v1, .string S, .slice A1 L.length c1, .slice A2 T.length c2] #[.int .i64 u0, .int .i64 u1, .string R, .slice B1 M.length d1, .slice B2 U.length d2] W → Calls Tryd.prog 22 #[.agg #[.int .i64 u0, .int .i64 u1, .string R, .slice B1 M.length d1, .slice B2 U.length d2]] W fun e w' => e = .returned (.int .i64 (kd v0)) ∧ PfxW w #[.int .i64 v0, .int .i64 v1, .string S, .slice A1 L.length c1, .slice A2 T.length c2] #[.int .i64 u0, .int .i64 u1, .string R, .slice B1 M.length d1, .slice B2 U.length d2] w' ∧ ∀ g' t' cs', Blk W g' t' cs' → Blk w' g' t' cs') := hid (by
    intro W hp
    rw [hk]
    exact (kind_any u0 u1 R B1 _ d1 B2 _ d2 W j0).mono fun e w' ⟨h1, h2⟩ => ⟨h1, hp.step h2, fun g' t' cs' hk => hk.below h2 hk.lt⟩)
  have Hf := hid hf
  have Hg := hid hg
  have Hk := hid hk
  clear hf hg hk
  have p0 : PfxW w #[.int .i64 v0, .int .i64 v1, .string S, .slice A1 L.length c1, .slice A2 T.length c2] #[.int .i64 u0, .int .i64 u1, .string R, .slice B1 M.length d1, .slice B2 U.length d2] ((w.alloc (Obj.cells #[.int .i64 v0, .int .i64 v1, .string S, .slice A1 L.length c1, .slice A2 T.length c2] 25)).alloc (Obj.cells #[.int .i64 u0, .int .i64 u1, .string R, .slice B1 M.length d1, .slice B2 U.length d2] 25)) :=
    ⟨by (repeat (first | exact Below.refl _ _ | assumption | refine below_drewN ?_ _ | refine Below.drew ?_ | refine Below.alloc ?_ (by (try simp); (try omega)) _ | refine Below.setCell ?_ (by (try simp); (try omega)) _)), (Blk.new _ _ _).alloc _, Blk.new_at (by simp)⟩
  go_enter Tryd.func5, Tryd.ntmps5
  go_wp2_with fail
  refine (small_any _ (he.below p0.below)).mono ?_
  rintro e w1 ⟨rfl, hB⟩
  have p1 := p0.step hB
  clear hB p0
  have x0 := p1.b1.cell 0; have y0 := p1.b2.cell 0; have x1 := p1.b1.cell 1; have y1 := p1.b2.cell 1; have x2 := p1.b1.cell 2; have y2 := p1.b2.cell 2; have x3 := p1.b1.cell 3; have y3 := p1.b2.cell 3; have x4 := p1.b1.cell 4; have y4 := p1.b2.cell 4; simp at x0 y0 x1 y1 x2 y2 x3 y3 x4 y4
  go_upto_region 2 with fail
  go_cut [26] (fun t wx => t = .bool false ∧ PfxW w #[.int .i64 v0, .int .i64 v1, .string S, .slice A1 L.length c1, .slice A2 T.length c2] #[.int .i64 u0, .int .i64 u1, .string R, .slice B1 M.length d1, .slice B2 U.length d2] wx)
  case first =>
    go_region_held3 (fun w' => w'.cell? ⟨w.heap.size, 0, none⟩ = some (.int .i64 v0) ∧ w'.cell? ⟨w.heap.size, 1, none⟩ = some (.int .i64 v1) ∧ w'.cell? ⟨w.heap.size, 2, none⟩ = some (.string S) ∧ w'.cell? ⟨w.heap.size, 3, none⟩ = some (.slice A1 L.length c1) ∧ w'.cell? ⟨w.heap.size, 4, none⟩ = some (.slice A2 T.length c2) ∧ w'.cell? ⟨w.heap.size + 1, 0, none⟩ = some (.int .i64 u0) ∧ w'.cell? ⟨w.heap.size + 1, 1, none⟩ = some (.int .i64 u1) ∧ w'.cell? ⟨w.heap.size + 1, 2, none⟩ = some (.string R) ∧ w'.cell? ⟨w.heap.size + 1, 3, none⟩ = some (.slice B1 M.length d1) ∧ w'.cell? ⟨w.heap.size + 1, 4, none⟩ = some (.slice B2 U.length d2))
    (first | assumption | go_keep)
    (first
    | (go_at_call 10; (with_reducible refine (hf1.out _ _ ?_ ?_).mono ?_); (repeat (first | assumption | refine PfxW.drew ?_ | refine PfxW.alloc ?_ _)); (first | (refine (Blk.new_at ?_).drew; (focus (simp; done))) | (refine Blk.new_at ?_; (focus (simp; done)))); rintro e w2 ⟨rfl, p2, k2⟩; have x20 := p2.b1.cell 0; have y20 := p2.b2.cell 0; have x21 := p2.b1.cell 1; have y21 := p2.b2.cell 1; have x22 := p2.b1.cell 2; have y22 := p2.b2.cell 2; have x23 := p2.b1.cell 3; have y23 := p2.b2.cell 3; have x24 := p2.b1.cell 4; have y24 := p2.b2.cell 4; simp at x20 y20 x21 y21 x22 y22 x23 y23 x24 y24)
    | (go_at_call 10; (with_reducible refine (hf2.out _ _ ?_ ?_).mono ?_); (repeat (first | assumption | refine PfxW.drew ?_ | refine PfxW.alloc ?_ _)); (first | (refine (Blk.new_at ?_).drew; (focus (simp; done))) | (refine Blk.new_at ?_; (focus (simp; done))) | (refine k2 _ _ _ ?_; refine (Blk.new_at ?_).drew; (focus (simp; done))) | (refine Blk.drew ?_; refine k2 _ _ _ ?_; refine (Blk.new_at ?_).drew; (focus (simp; done)))); rintro e w3 ⟨rfl, p3, k3⟩; have x30 := p3.b1.cell 0; have y30 := p3.b2.cell 0; have x31 := p3.b1.cell 1; have y31 := p3.b2.cell 1; have x32 := p3.b1.cell 2; have y32 := p3.b2.cell 2; have x33 := p3.b1.cell 3; have y33 := p3.b2.cell 3; have x34 := p3.b1.cell 4; have y34 := p3.b2.cell 4; simp at x30 y30 x31 y31 x32 y32 x33 y33 x34 y34)
    | (go_at_call 22; (with_reducible refine (hk1.out _ ?_).mono ?_); (repeat (first | assumption | refine PfxW.drew ?_ | refine PfxW.alloc ?_ _)); rintro e w4 ⟨rfl, p4, k4⟩; have x40 := p4.b1.cell 0; have y40 := p4.b2.cell 0; have x41 := p4.b1.cell 1; have y41 := p4.b2.cell 1; have x42 := p4.b1.cell 2; have y42 := p4.b2.cell 2; have x43 := p4.b1.cell 3; have y43 := p4.b2.cell 3; have x44 := p4.b1.cell 4; have y44 := p4.b2.cell 4; simp at x40 y40 x41 y41 x42 y42 x43 y43 x44 y44)
    | (go_at_call 22; (with_reducible refine (hk2.out _ ?_).mono ?_); (repeat (first | assumption | refine PfxW.drew ?_ | refine PfxW.alloc ?_ _)); rintro e w5 ⟨rfl, p5, k5⟩; have x50 := p5.b1.cell 0; have y50 := p5.b2.cell 0; have x51 := p5.b1.cell 1; have y51 := p5.b2.cell 1; have x52 := p5.b1.cell 2; have y52 := p5.b2.cell 2; have x53 := p5.b1.cell 3; have y53 := p5.b2.cell 3; have x54 := p5.b1.cell 4; have y54 := p5.b2.cell 4; simp at x50 y50 x51 y51 x52 y52 x53 y53 x54 y54))
    all_goals
      go_wp2_with fail
      go_meet
      exact ⟨rfl, by (repeat (first | assumption | refine PfxW.drew ?_ | refine PfxW.alloc ?_ _))⟩

  case rest =>
    obtain ⟨rfl, p9⟩ := hcut
    clear x0 x1 x2 x3 x4 y0 y1 y2 y3 y4 hf1 hf2 hk1 hk2
    have F1 : Few [((v0, v1, S, L, T) : Val)] := by simpa [fewB] using Hf.out
    have F2 : Few [((u0, u1, R, M, U) : Val)] := by simpa [fewB] using Hg.out
    have o1 := hid (F1.o _ (List.mem_singleton.2 rfl))
    have o2 := hid (F2.o _ (List.mem_singleton.2 rfl))
    clear F1 F2 Hf Hg
    have l1 := hid (encV_len ((v0, v1, S, L, T) : Val) o1.out h1 h5.ints)
    have l2 := hid (encV_len ((u0, u1, R, M, U) : Val) o2.out j1 j5.ints)
    have hpf := hid (fun rest h => encV_pfx (v := ((v0, v1, S, L, T) : Val)) (u := ((u0, u1, R, M, U) : Val)) (rest := rest) Hk.out o1.out o2.out h1 j1 h5.ints j5.ints h)
    have x90 := p9.b1.cell 0; have y90 := p9.b2.cell 0; have x91 := p9.b1.cell 1; have y91 := p9.b2.cell 1; have x92 := p9.b1.cell 2; have y92 := p9.b2.cell 2; have x93 := p9.b1.cell 3; have y93 := p9.b2.cell 3; have x94 := p9.b1.cell 4; have y94 := p9.b2.cell 4; simp at x90 y90 x91 y91 x92 y92 x93 y93 x94 y94
    have z9 := p9.b1.lt; have y9 := p9.b2.lt
    go_wp2_with fail
    refine (write_any v0 v1 S A1 c1 L A2 c2 T _ h0 h1 h3 h4 ((h5.below p9.below).more p9.below.size) h6 h7 ((h8.below p9.below).more p9.below.size) o1.out (he.below p9.below)).mono ?_
    rintro e w3 ⟨rfl, hB⟩
    have p3 := p9.step hB
    have z3 := p3.b1.lt; have y3' := p3.b2.lt
    clear hB p9 x90 y90 x91 y91 x92 y92 x93 y93 x94 y94 z9 y9
    have x30 := p3.b1.cell 0; have y30 := p3.b2.cell 0; have x31 := p3.b1.cell 1; have y31 := p3.b2.cell 1; have x32 := p3.b1.cell 2; have y32 := p3.b2.cell 2; have x33 := p3.b1.cell 3; have y33 := p3.b2.cell 3; have x34 := p3.b1.cell 4; have y34 := p3.b2.cell 4; simp at x30 y30 x31 y31 x32 y32 x33 y33 x34 y34
    go_wp2_with fail
    refine (write_any u0 u1 R B1 d1 M B2 d2 U _ j0 j1 j3 j4 ((j5.below p3.below).more p3.below.size) j6 j7 ((j8.below p3.below).more p3.below.size) o2.out (he.below p3.below)).mono ?_
    rintro e w4 ⟨rfl, hB⟩
    have p4 := p3.step hB
    have z4 := p4.b1.lt; have y4' := p4.b2.lt
    clear hB p3 x30 y30 x31 y31 x32 y32 x33 y33 x34 y34 z3 y3'
    have x40 := p4.b1.cell 0; have y40 := p4.b2.cell 0; have x41 := p4.b1.cell 1; have y41 := p4.b2.cell 1; have x42 := p4.b1.cell 2; have y42 := p4.b2.cell 2; have x43 := p4.b1.cell 3; have y43 := p4.b2.cell 3; have x44 := p4.b1.cell 4; have y44 := p4.b2.cell 4; simp at x40 y40 x41 y41 x42 y42 x43 y43 x44 y44
    obtain ⟨ev, hev⟩ : ∃ ev, ev = encV ((v0, v1, S, L, T) : Val) := ⟨_, rfl⟩
    obtain ⟨eu, heu⟩ : ∃ eu, eu = encV ((u0, u1, R, M, U) : Val) := ⟨_, rfl⟩
    rw [← hev] at l1 hpf ⊢
    rw [← heu] at l2 hpf ⊢
    have Heu := hid heu
    clear hev heu
    by_cases hgt : ((bs eu).size : Int) < (bs ev).size
    · go_wp2_with fail
      go_ret
      exact ⟨rfl, p4.below⟩
    · by_cases heq : eu = ev
      · subst heq
        have e1 : (((bs eu).extract 0 (min (↑(bs eu).size) ↑(bs eu).size : Int).toNat).toList == (bs eu).toList) = true := by
          rw [Int.min_self, Int.toNat_natCast, bs_extract, bs_size, List.take_length, List.drop_zero]; simp
        have e2 : (((bs eu).extract 0 (bs eu).size).toList == (bs eu).toList) = true := by
          rw [bs_extract, bs_size, List.take_length, List.drop_zero]; simp
        have e3 : (((bs eu).extract 0 (bs eu).size).toList != (bs eu).toList) = false := by
          rw [bs_extract, bs_size, List.take_length, List.drop_zero]; simp
        go_wp2_with fail
        refine (open_any (bs eu) _).mono ?_
        rw [show (bs eu).data.toList = eu ++ [] by simp [bs]]
        rintro e w5 ⟨rfl, hR, hB⟩
        have p5 := p4.step hB
        have z5 := p5.b1.lt; have y5' := p5.b2.lt
        have z5r := hR.lt
        have hz4 := hid p4.below.size
        clear hB p4 x40 y40 x41 y41 x42 y42 x43 y43 x44 y44 z4 y4' e1 e2 e3
        have x50 := p5.b1.cell 0; have y50 := p5.b2.cell 0; have x51 := p5.b1.cell 1; have y51 := p5.b2.cell 1; have x52 := p5.b1.cell 2; have y52 := p5.b2.cell 2; have x53 := p5.b1.cell 3; have y53 := p5.b2.cell 3; have x54 := p5.b1.cell 4; have y54 := p5.b2.cell 4; simp at x50 y50 x51 y51 x52 y52 x53 y53 x54 y54
        rw [Heu.out] at hR
        go_wp2_with fail
        refine (equal_any u0 u1 R B1 d1 M B2 d2 U w j0 j1 j3 j4 j5 j6 j7 j8 o2.out he w4.heap.size hz4.out w5 p5.below [] hR (by have := l2.out; rw [← Heu.out]; simp; omega)).mono ?_
        rintro e w6 ⟨rfl, hR6, hg⟩
        go_wp2_with fail
        go_ret
        exact ⟨rfl, bg p5.below hg hz4.out⟩
      · have hne : eu.take ev.length ≠ ev := by
          intro h
          have h2 : eu = ev ++ eu.drop ev.length := by conv => lhs; rw [← List.take_append_drop ev.length eu, h]
          have h3 := hpf.out _ h2
          rw [h3, List.append_nil] at h2
          exact heq h2
        have hmin : (min (↑(bs ev).size) ↑(bs eu).size : Int).toNat = ev.length := by rw [bs_size, bs_size] at *; omega
        have e1 : (((bs eu).extract 0 (min (↑(bs ev).size) ↑(bs eu).size : Int).toNat).toList == (bs ev).toList) = false := by
          rw [hmin, bs_extract, List.drop_zero, bs_list, bs_list]; simpa using hne
        have e2 : (((bs eu).extract 0 (min (↑(bs ev).size) ↑(bs eu).size : Int).toNat).toList != (bs ev).toList) = true := by
          rw [hmin, bs_extract, List.drop_zero, bs_list, bs_list]; simpa using hne
        clear hmin hne heq
        go_wp2_with fail
        go_ret
        exact ⟨rfl, p4.below⟩

theorem prefix_any (v0 v1 : Int) (S : ByteArray) (A1 : Option Addr) (c1 : Nat) (L : List Int) (A2 : Option Addr) (c2 : Nat) (T : List ByteArray)
    (u0 u1 : Int) (R : ByteArray) (B1 : Option Addr) (d1 : Nat) (M : List Int) (B2 : Option Addr) (d2 : Nat) (U : List ByteArray) (w : World)
    (h0 : I64 v0) (h1 : I64 v1) (h2 : S.size ≤ maxLen) (h3 : L.length ≤ c1) (h4 : c1 ≤ maxLen) (h5 : SlR w w.heap.size A1 L) (h6 : T.length ≤ c2) (h7 : c2 ≤ maxLen) (h8 : SlR w w.heap.size A2 T)
    (j0 : I64 u0) (j1 : I64 u1) (j2 : R.size ≤ maxLen) (j3 : M.length ≤ d1) (j4 : d1 ≤ maxLen) (j5 : SlR w w.heap.size B1 M) (j6 : U.length ≤ d2) (j7 : d2 ≤ maxLen) (j8 : SlR w w.heap.size B2 U) (he : Env w) :
    Calls Tryd.prog 5 #[.agg #[.int .i64 v0, .int .i64 v1, .string S, .slice A1 L.length c1, .slice A2 T.length c2], .agg #[.int .i64 u0, .int .i64 u1, .string R, .slice B1 M.length d1, .slice B2 U.length d2]] w fun e w' => e = .returned (.bool true) ∧ Below w.heap.size w w' := by
  cases hf : fewB [((v0, v1, S, L, T) : Val)] with
  | false => exact prefix_a v0 v1 S A1 c1 L A2 c2 T u0 u1 R B1 d1 M B2 d2 U w h0 h1 h2 h3 h4 h5 h6 h7 h8 j0 j1 j2 j3 j4 j5 j6 j7 j8 he hf
  | true =>
    cases hg : fewB [((u0, u1, R, M, U) : Val)] with
    | false => exact prefix_b v0 v1 S A1 c1 L A2 c2 T u0 u1 R B1 d1 M B2 d2 U w h0 h1 h2 h3 h4 h5 h6 h7 h8 j0 j1 j2 j3 j4 j5 j6 j7 j8 he hf hg
    | true =>
      by_cases hk : kd v0 = kd u0
      · exact prefix_d v0 v1 S A1 c1 L A2 c2 T u0 u1 R B1 d1 M B2 d2 U w h0 h1 h2 h3 h4 h5 h6 h7 h8 j0 j1 j2 j3 j4 j5 j6 j7 j8 he hf hg hk
      · exact prefix_c v0 v1 S A1 c1 L A2 c2 T u0 u1 R B1 d1 M B2 d2 U w h0 h1 h2 h3 h4 h5 h6 h7 h8 j0 j1 j2 j3 j4 j5 j6 j7 j8 he hf hg (by simpa using hk)

end Go.Proofs.YtjdblegmpmampaaDoor
