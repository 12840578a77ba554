/- Wire: WireWrites, the walk. -/
import Derived.Test.YtjdblegmpmampaaDoorWireF
set_option linter.unusedSimpArgs false
set_option linter.unusedVariables false
namespace Go.Proofs.YtjdblegmpmampaaDoor
open Go.RowKit Go.IntWalk

theorem slr_one {W : World} {g n : Nat} {v0 v1 : Int} {S : ByteArray} {A1 A2 : Option Addr} {c1 c2 : Nat} {L : List Int} {T : List ByteArray} (hb : Blk W g 25 #[.int .i64 v0, .int .i64 v1, .string S, .slice A1 L.length c1, .slice A2 T.length c2]) (hg : g < n)
    (h0 : I64 v0) (h1 : I64 v1) (h2 : S.size ≤ maxLen) (h3 : L.length ≤ c1) (h4 : c1 ≤ maxLen) (h5 : SlR W n A1 L) (h6 : T.length ≤ c2) (h7 : c2 ≤ maxLen) (h8 : SlR W n A2 T) : SlR W n (some ⟨g, 0, none⟩) [((v0, v1, S, L, T) : Val)] := by
  intro k x hx
  match k, hx with
  | 0, hx =>
    simp only [List.getElem?_cons_zero, Option.some.injEq] at hx
    subst hx
    refine ⟨g, 0, [.int .i64 v0, .int .i64 v1, .string S, .slice A1 L.length c1, .slice A2 T.length c2], rfl, hg, rfl, fun j u hu => ?_, ?_⟩
    · rw [show 0 + 0 * Rep.size Val + j = j by omega, hb.cell j]
      simpa using hu
    · exact ⟨[.int .i64 v0], [.int .i64 v1, .string S, .slice A1 L.length c1, .slice A2 T.length c2], rfl, rfl, rfl, ⟨rfl, h0⟩, [.int .i64 v1], [.string S, .slice A1 L.length c1, .slice A2 T.length c2], rfl, rfl, rfl, ⟨rfl, h1⟩,
        [.string S], [.slice A1 L.length c1, .slice A2 T.length c2], rfl, rfl, rfl, ⟨rfl, h2⟩, [.slice A1 L.length c1], [.slice A2 T.length c2], rfl, rfl, rfl, ⟨A1, c1, rfl, h3, h4, h5⟩, A2, c2, rfl, h6, h7, h8⟩
  | k + 1, hx => simp at hx

theorem flat_bound (l : List (List UInt8)) (n : Nat) (h : ∀ y ∈ l, y.length ≤ n) : l.flatten.length ≤ l.length * n := by
  induction l with
  | nil => simp
  | cons y l ih =>
    have h1 := ih (fun z hz => h z (List.mem_cons_of_mem _ hz))
    have h2 := h y List.mem_cons_self
    rw [List.flatten_cons, List.length_append, List.length_cons, Nat.succ_mul]
    omega
set_option maxRecDepth 20000 in
set_option maxHeartbeats 4000000 in
theorem writes_any (v0 v1 : Int) (S : ByteArray) (A1 : Option Addr) (c1 : Nat) (L : List Int) (A2 : Option Addr) (c2 : Nat) (T : List ByteArray) (w : World) (h0 : I64 v0) (h1 : I64 v1) (h2 : S.size ≤ maxLen) (h3 : L.length ≤ c1) (h4 : c1 ≤ maxLen) (h5 : SlR w w.heap.size A1 L) (h6 : T.length ≤ c2) (h7 : c2 ≤ maxLen) (h8 : SlR w w.heap.size A2 T) (he : Env w) :
    Calls Tryd.prog 3 #[.agg #[.int .i64 v0, .int .i64 v1, .string S, .slice A1 L.length c1, .slice A2 T.length c2]] w fun e w' => e = .returned (.bool true) ∧ Below w.heap.size w w' := by
  have hb0 : Below w.heap.size w (w.alloc (Obj.cells #[.int .i64 v0, .int .i64 v1, .string S, .slice A1 L.length c1, .slice A2 T.length c2] 25)) := by (repeat (first | exact Below.refl _ _ | assumption | refine below_drewN ?_ _ | refine Below.drew ?_ | refine Below.alloc ?_ (by (try simp); (try omega)) _ | refine Below.setCell ?_ (by (try simp); (try omega)) _))
  go_enter Tryd.func3, Tryd.ntmps3
  go_wp2_with fail
  refine (small_any _ (he.below hb0)).mono ?_
  rintro e w1 ⟨rfl, hB⟩
  have hB1 : Below w.heap.size w w1 := hb0.trans (hB.mono hb0.size)
  have bx := hid ((Blk.new w 25 #[.int .i64 v0, .int .i64 v1, .string S, .slice A1 L.length c1, .slice A2 T.length c2]).below hB (by simp))
  clear hB hb0
  have x0 := bx.out.cell 0; have x1 := bx.out.cell 1; have x2 := bx.out.cell 2; have x3 := bx.out.cell 3; have x4 := bx.out.cell 4
  simp at x0 x1 x2 x3 x4
  go_wp2_with fail
  have hb2 := hid (hB1.alloc hB1.size (Obj.cells #[.int .i64 v0, .int .i64 v1, .string S, .slice A1 L.length c1, .slice A2 T.length c2] 25))
  refine (few_any _ _ [((v0, v1, S, L, T) : Val)] _ (by simp [maxLen]) (slr_one (Blk.new_at (by simp)) (by simp) h0 h1 h2 h3 h4 ((h5.below hb2.out).more hb2.out.size) h6 h7 ((h8.below hb2.out).more hb2.out.size))).mono ?_
  rintro e w2 ⟨rfl, hB⟩
  have hB2 : Below w.heap.size w w2 := hb2.out.trans (hB.mono hb2.out.size)
  have bx2 : Hid (Blk w2 w.heap.size 25 #[.int .i64 v0, .int .i64 v1, .string S, .slice A1 L.length c1, .slice A2 T.length c2]) := by
    have := bx.out.lt
    exact (bx.out.alloc _).below hB (by simp; omega)
  clear hB hb2 x0 x1 x2 x3 x4 bx hB1
  cases hfew : fewB [((v0, v1, S, L, T) : Val)] with
  | false =>
    clear hfew
    go_wp2_with fail
    go_ret
    exact ⟨rfl, hB2⟩
  | true =>
    have hF : Few [((v0, v1, S, L, T) : Val)] := by
      simpa [fewB] using hfew
    have hO := hid (hF.o _ (List.mem_singleton.2 rfl))
    clear hfew hF
    have x0 := bx2.out.cell 0; have x1 := bx2.out.cell 1; have x2 := bx2.out.cell 2; have x3 := bx2.out.cell 3; have x4 := bx2.out.cell 4
    simp at x0 x1 x2 x3 x4
    have hz := bx2.out.lt
    have hS : S.size ≤ 1000000000 := by have := hO.out.s; simp at this; omega
    have hx := fun x : Ext (GB w2) => GB.cell x
    have env := hid (fun x : Ext (GB w2) => he.below (hB2.trans (x.h.out.mono hB2.size)))
    have ca := hid fun x : Ext (GB w2) => GB.call (wNum_any v1 h1 x.w (env.out x))
    have cb := hid fun x : Ext (GB w2) => GB.call (rNum_any v1 h1 x.w)
    have cc := hid fun x : Ext (GB w2) => GB.call (wInt_any v1 h1 x.w (env.out x))
    have cd := hid fun x : Ext (GB w2) => GB.call (rInt_any v1 h1 x.w)
    have ce := hid fun x : Ext (GB w2) => GB.call (wText_any S hS x.w (env.out x))
    have cf := hid fun x : Ext (GB w2) => GB.call (rText_any S hS x.w)
    clear hS
    go_upto_region 4 with fail
    refine wp_region_ext (GB w2) (by kernel_rfl) (by kernel_rfl) (GB.refl _) ?_
    repeat (go_big_quiet_step (first | exact ca.out _ | exact cb.out _ | exact cc.out _ | exact cd.out _ | exact ce.out _ | exact cf.out _))
    refine wpQuiet_nil ?_
    intro w3 hG
    have bx3 := hid (bx2.out.below hG.out bx2.out.lt)
    have hB3 : Below w.heap.size w w3 := hB2.trans (hG.out.mono hB2.size)
    clear hx env ca cb cc cd ce cf x0 x1 x2 x3 x4 hG bx2 hB2 hz
    have x0 := bx3.out.cell 0; have x1 := bx3.out.cell 1; have x2 := bx3.out.cell 2; have x3 := bx3.out.cell 3; have x4 := bx3.out.cell 4
    simp at x0 x1 x2 x3 x4
    have hz := bx3.out.lt
    have hx := fun x : Ext (GB w3) => GB.cell x
    have hbx := hid (fun x : Ext (GB w3) => hB3.trans (x.h.out.mono hB3.size))
    have l1 : (L.map encI).flatten.length ≤ 1000000000000 := by
      have := flat_bound (L.map encI) 22 (by
        intro y hy
        obtain ⟨x, hx, rfl⟩ := List.mem_map.1 hy
        have hi := h5.ints x hx
        have := Lib.itoa_length_le x hi.1 hi.2
        simp [encI]; omega)
      have h := hO.out.l
      simp at this h
      simp only [List.length_flatten, List.map_map] at *
      omega
    have l2 : (T.map encB).flatten.length ≤ 1000000000000 := by
      have := flat_bound (T.map encB) 500 (by
        intro y hy
        obtain ⟨x, hx, rfl⟩ := List.mem_map.1 hy
        have h := hO.out.e x hx
        have h1 := Lib.itoa_length_le (x.data.toList.length : Int) (by omega) (by rw [← size_list]; omega)
        have h2 := size_list x
        rw [encB, encT]
        simp only [List.length_append, List.length_cons, List.length_nil]
        omega)
      have h := hO.out.t
      simp at this h
      simp only [List.length_flatten, List.map_map] at *
      omega
    have hLn : L.length ≤ 1000000000000 := by have := hO.out.l; simp at this; omega
    have hTn : T.length ≤ 1000000000000 := by have := hO.out.t; simp at this; omega
    have hTb : ∀ s ∈ T, s.size ≤ 1000000000 := fun s hs => Nat.le_trans (hO.out.e s hs) (by decide)
    have ca := hid fun x : Ext (GB w3) => GB.call (wNums_any A1 c1 L x.w l1 hLn ((h5.below (hbx.out x)).more (hbx.out x).size) (he.below (hbx.out x)))
    have cb := hid fun x : Ext (GB w3) => GB.call (rNums_any A1 c1 L x.w l1 hLn ((h5.below (hbx.out x)).more (hbx.out x).size))
    have cc := hid fun x : Ext (GB w3) => GB.call (wTexts_any A2 c2 T x.w l2 hTn hTb ((h8.below (hbx.out x)).more (hbx.out x).size) (he.below (hbx.out x)))
    have cd := hid fun x : Ext (GB w3) => GB.call (rTexts_any A2 c2 T x.w l2 hTn hTb ((h8.below (hbx.out x)).more (hbx.out x).size))
    clear l1 l2 hLn hTn hTb
    go_upto_region 5 with fail
    refine wp_region_ext (GB w3) (by kernel_rfl) (by kernel_rfl) (GB.refl _) ?_
    repeat (go_big_quiet_step (first | exact ca.out _ | exact cb.out _ | exact cc.out _ | exact cd.out _))
    refine wpQuiet_nil ?_
    intro w4 hG
    have hB4 : Below w.heap.size w w4 := hB3.trans (hG.out.mono hB3.size)
    clear hx hbx ca cb cc cd
    go_wp2_with fail
    all_goals
      go_ret
      exact ⟨rfl, hB4⟩
end Go.Proofs.YtjdblegmpmampaaDoor
