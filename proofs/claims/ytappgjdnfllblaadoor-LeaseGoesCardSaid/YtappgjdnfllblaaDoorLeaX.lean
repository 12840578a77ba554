
/- Lease: the least residue; two desks, clocks and a network are made. -/
import Derived.Test.YtappgjdnfllblaaDoorLeaSb
set_option linter.unusedSimpArgs false
set_option linter.unusedVariables false
namespace Go.Proofs.YtappgjdnfllblaaDoor
open Go.RowKit Go.IntWalk Go.Maps Go.WideMaps
theorem and_one (x : Int) : bits .and .i64 x 1 = 0 ∨ bits .and .i64 x 1 = 1 := by
  have h : (BitVec.ofInt 64 x &&& BitVec.ofInt 64 1).toNat = 0 ∨ (BitVec.ofInt 64 x &&& BitVec.ofInt 64 1).toNat = 1 := by
    rw [BitVec.toNat_and, show (BitVec.ofInt 64 1).toNat = 1 by decide, Nat.and_one_is_mod]
    omega
  have e : bits .and .i64 x 1 = IntKind.i64.wrap ((BitVec.ofInt 64 x &&& BitVec.ofInt 64 1).toNat : Int) := rfl
  rw [e]
  rcases h with h | h <;> rw [h]
  · exact .inl (by decide)
  · exact .inr (by decide)
def modI (n m : Int) : Int := if m < 1 then 0 else if n.tmod m < 0 then n.tmod m + m else n.tmod m
theorem modI_in {n m : Int} (h : 1 ≤ m) : 0 ≤ modI n m ∧ modI n m < m := by
  have a := Int.tmod_lt_of_pos n (show 0 < m by omega)
  have b := Int.lt_tmod_of_pos n (show 0 < m by omega)
  unfold modI
  rw [if_neg (by omega)]
  split <;> omega
theorem modI_no {n m : Int} (h : m < 1) : modI n m = 0 := by unfold modI; rw [if_pos h]
set_option maxRecDepth 100000 in
theorem mod_any (n m : Int) (hm : m ≤ 1000000) (w : World) : Calls Tryd.prog 70 #[.int .i64 n, .int .i64 m] w fun e w' => e = .returned (.int .i64 (modI n m)) ∧ w = w' := by
  by_cases h1 : m < 1
  · rw [modI_no h1]
    go_enter Tryd.func70, Tryd.ntmps70
    go_wp2_with fail
    go_ret
    exact ⟨rfl, rfl⟩
  · have a := Int.tmod_lt_of_pos n (show 0 < m by omega)
    have b := Int.lt_tmod_of_pos n (show 0 < m by omega)
    have hne : (m == 0) = false := by simp; omega
    have hne' : m ≠ 0 := by omega
    have hne2 : (m == -1) = false := by simp; omega
    have hne3 : m ≠ -1 := by omega
    have hr := hid (show modI n m = if n.tmod m < 0 then n.tmod m + m else n.tmod m by unfold modI; rw [if_neg h1])
    by_cases h2 : n.tmod m < 0
    · have hr2 := hid (show modI n m = n.tmod m + m by rw [hr.out, if_pos h2])
      clear hr
      go_enter Tryd.func70, Tryd.ntmps70
      go_wp2_with fail
      go_ret
      exact ⟨ret_int hr2.out.symm, rfl⟩
    · have hr2 := hid (show modI n m = n.tmod m by rw [hr.out, if_neg h2])
      clear hr
      go_enter Tryd.func70, Tryd.ntmps70
      go_wp2_with fail
      go_ret
      exact ⟨ret_int hr2.out.symm, rfl⟩
theorem newDk_no {me : Int} {home : List Int} (h : ¬ (home.length ≤ 64 ∧ ∀ x ∈ home, x = 0 ∨ x = 1)) : newDk me home = none := by
  unfold newDk; rw [if_neg (fun hc => h hc.2)]
theorem newDk_yes {me : Int} {home : List Int} (hm : me = 0 ∨ me = 1) (h : home.length ≤ 64 ∧ ∀ x ∈ home, x = 0 ∨ x = 1) : newDk me home = some (newD me home) := by
  unfold newDk; rw [if_pos ⟨hm, h⟩]
set_option maxRecDepth 100000 in
set_option maxHeartbeats 2000000 in
theorem begin_no (A : Option Addr) (c : Nat) (home : List Int) (w : World) (hc : home.length ≤ c) (hm : c ≤ maxLen) (hs : SlR w w.heap.size A home) (hn : ¬ (home.length ≤ 64 ∧ ∀ x ∈ home, x = 0 ∨ x = 1)) :
    Calls Tryd.prog 39 #[.slice A home.length c] w fun e w' => e = .returned (.pointer none) ∧ Below w.heap.size w w' := by
  have C0 := hid (fun W (hW : Below w.heap.size w W) => lnew_any 0 A c home W (by simp [I64]) hc hm ((hs.below hW).more hW.size))
  have C1 := hid (fun W (hW : Below w.heap.size w W) => lnew_any 1 A c home W (by simp [I64]) hc hm ((hs.below hW).more hW.size))
  rw [newDk_no hn] at C0 C1
  clear hs hn hc hm
  go_enter Tryd.func39, Tryd.ntmps39
  go_wp2_with fail
  refine (C0.out w (Below.refl _ _)).mono ?_
  rintro e w1 ⟨rfl, B1⟩
  go_wp2_with fail
  refine (C1.out w1 B1).mono ?_
  rintro e w2 ⟨rfl, hB⟩
  have B2 := hid (B1.trans (hB.mono B1.size))
  have B3 := hid (B2.out.alloc B2.out.size (Obj.cells #[.pointer none, .pointer none] 29))
  have bd := hid (Blk.new w2 29 #[.pointer none, .pointer none])
  clear B1 hB B2
  go_wp2_with fail
  refine (nnew_any _).mono ?_
  rintro e w4 ⟨rfl, -, hB⟩
  have B4 := hid (B3.out.trans (hB.mono B3.out.size))
  have bd4 := hid (bd.out.below hB bd.out.lt)
  have y0 := bd4.out.cell 0
  have yl := bd4.out.lt
  simp at y0
  clear hB B3 bd
  go_wp2_with fail
  go_ret
  exact ⟨rfl, (B4.out.alloc B4.out.size _).alloc (by have := B4.out.size; simp; omega) _⟩
set_option maxRecDepth 100000 in
set_option maxHeartbeats 4000000 in
theorem begin_yes (A : Option Addr) (c : Nat) (home : List Int) (w : World) (hc : home.length ≤ c) (hm : c ≤ maxLen) (hs : SlR w w.heap.size A home) (hn : home.length ≤ 64 ∧ ∀ x ∈ home, x = 0 ∨ x = 1) :
    Calls Tryd.prog 39 #[.slice A home.length c] w fun e w' => ∃ m : PM, e = .returned (.pointer (some ⟨m.px, 0, none⟩)) ∧ Pl w w' m ⟨newD 0 home, newD 1 home, [], 0, 0, 0, 0⟩ := by
  have C0 := hid (fun W (hW : Below w.heap.size w W) => lnew_any 0 A c home W (by simp [I64]) hc hm ((hs.below hW).more hW.size))
  have C1 := hid (fun W (hW : Below w.heap.size w W) => lnew_any 1 A c home W (by simp [I64]) hc hm ((hs.below hW).more hW.size))
  rw [newDk_yes (Or.inl rfl) hn] at C0
  rw [newDk_yes (Or.inr rfl) hn] at C1
  clear hs hn hc hm
  generalize newD 0 home = da at *
  generalize newD 1 home = db at *
  go_enter Tryd.func39, Tryd.ntmps39
  go_wp2_with fail
  refine (C0.out w (Below.refl _ _)).mono ?_
  rintro e w1 ⟨b0, v0, mh0, mg0, rfl, hL, hB⟩
  have L1 := hid hL
  have B1 := hid hB
  clear hL hB
  go_wp2_with fail
  refine (C1.out w1 B1.out).mono ?_
  rintro e w2 ⟨b1, v1, mh1, mg1, rfl, hL, hB⟩
  have T2 := hid (show Tw w w2 ⟨w.heap.size, b0, mh0, mg0, v0⟩ ⟨w1.heap.size, b1, mh1, mg1, v1⟩ da db from by
    have q1 := hL.ha; have q2 := hL.ga
    have l1 := L1.out.h.lt; have l2 := L1.out.g.lt
    exact ⟨B1.out.trans (hB.mono B1.out.size), Nat.le_refl _, B1.out.size, L1.out.below hB, hL, ⟨by dsimp only; omega, by dsimp only; omega, by dsimp only; omega, by dsimp only; omega⟩⟩)
  clear hL hB L1 B1 C0 C1
  generalize w1.heap.size = x1 at *
  generalize hx0 : w.heap.size = x0 at T2
  have HX0 := hid hx0
  clear hx0
  have T3 := hid (T2.out.step (show Below w2.heap.size w2 (w2.alloc (Obj.cells #[.pointer (some ⟨b0, 0, none⟩), .pointer (some ⟨b1, 0, none⟩)] 29)) by (repeat (first | exact Below.refl _ _ | assumption | refine below_drewN ?_ _ | refine Below.drew ?_ | refine Below.alloc ?_ (by (try simp); (try omega)) _ | refine Below.setCell ?_ (by (try simp); (try omega)) _))))
  have bd := hid (Blk.new w2 29 #[.pointer (some ⟨b0, 0, none⟩), .pointer (some ⟨b1, 0, none⟩)])
  have z2 := hid T2.out.below.size
  clear T2
  go_wp2_with fail
  refine (nnew_any _).mono ?_
  generalize (w2.alloc (Obj.cells #[.pointer (some ⟨b0, 0, none⟩), .pointer (some ⟨b1, 0, none⟩)] 29)) = w3 at *
  generalize w2.heap.size = gd at *
  rintro e w4 ⟨rfl, hN, hB⟩
  have T4 := hid (T3.out.step hB)
  have bd4 := hid (bd.out.below hB bd.out.lt)
  have z3 := hid T3.out.below.size
  have N4 := hid hN
  have zz := hid hB.size
  clear hB bd T3 hN
  generalize w3.heap.size = nn at *
  have T5 := hid (T4.out.step (show Below w4.heap.size w4 (w4.alloc (Obj.cells #[.int .i64 0, .int .i64 0] 3)) by (repeat (first | exact Below.refl _ _ | assumption | refine below_drewN ?_ _ | refine Below.drew ?_ | refine Below.alloc ?_ (by (try simp); (try omega)) _ | refine Below.setCell ?_ (by (try simp); (try omega)) _))))
  have bd5 := hid (bd4.out.alloc (Obj.cells #[.int .i64 0, .int .i64 0] 3))
  have N5 := hid (N4.out.alloc (Obj.cells #[.int .i64 0, .int .i64 0] 3))
  have bg5 := hid (Blk.new w4 3 #[.int .i64 0, .int .i64 0])
  have z4 := hid T4.out.below.size
  have ra := hid (show v0.ownBlock ≠ some w4.heap.size by intro e; have := (T4.out.la.r.lt _ e).2; omega)
  have rb := hid (show v1.ownBlock ≠ some w4.heap.size by intro e; have := (T4.out.lb.r.lt _ e).2; omega)
  clear T4 bd4 N4
  have P6 := hid (show Pl w ((w4.alloc (Obj.cells #[.int .i64 0, .int .i64 0] 3)).alloc (Obj.cells #[.slice (some ⟨gd, 0, none⟩) 2 2, .pointer (some ⟨nn, 0, none⟩), .int .i64 0, .slice (some ⟨w4.heap.size, 0, none⟩) 2 2] 68)) ⟨w4.heap.size + 1, gd, w4.heap.size, nn, nn, ⟨x0, b0, mh0, mg0, v0⟩, ⟨x1, b1, mh1, mg1, v1⟩, .slice none 0 0⟩ ⟨da, db, [], 0, 0, 0, 0⟩ from by
    have b6 : Below (w4.alloc (Obj.cells #[.int .i64 0, .int .i64 0] 3)).heap.size (w4.alloc (Obj.cells #[.int .i64 0, .int .i64 0] 3)) ((w4.alloc (Obj.cells #[.int .i64 0, .int .i64 0] 3)).alloc (Obj.cells #[.slice (some ⟨gd, 0, none⟩) 2 2, .pointer (some ⟨nn, 0, none⟩), .int .i64 0, .slice (some ⟨w4.heap.size, 0, none⟩) 2 2] 68)) := by (repeat (first | exact Below.refl _ _ | assumption | refine below_drewN ?_ _ | refine Below.drew ?_ | refine Below.alloc ?_ (by (try simp); (try omega)) _ | refine Below.setCell ?_ (by (try simp); (try omega)) _))
    have T6 := T5.out.step b6
    have s5 : (w4.alloc (Obj.cells #[.int .i64 0, .int .i64 0] 3)).heap.size = w4.heap.size + 1 := by simp
    have k1 := z2.out; have k2 := z3.out; have k3 := z4.out; have k4 := T5.out.xb; have k5 := HX0.out; have k6 := zz.out
    refine ⟨T6.below, ⟨by dsimp only; omega, by dsimp only; omega, by dsimp only; omega, by dsimp only; omega, by dsimp only; omega, by dsimp only; omega, k4⟩, ?_, ?_, bd5.out.below b6 bd5.out.lt, bg5.out.below b6 bg5.out.lt, T6.la, T6.lb, T6.sep, ra.out, rb.out, N5.out.below b6⟩
    · have := b6.size; rw [s5] at this; dsimp only; omega
    · have := Blk.new (w4.alloc (Obj.cells #[.int .i64 0, .int .i64 0] 3)) 68 #[.slice (some ⟨gd, 0, none⟩) 2 2, .pointer (some ⟨nn, 0, none⟩), .int .i64 0, .slice (some ⟨w4.heap.size, 0, none⟩) 2 2]
      rw [s5] at this
      exact this)
  have y0 := bd5.out.cell 0; have y1 := bd5.out.cell 1; have yl := bd5.out.lt
  simp at y0 y1 yl
  clear T5 bd5 N5 bg5 ra rb z2 z3 z4 zz HX0
  go_wp2_with fail
  go_ret
  exact ⟨_, rfl, P6.out⟩
end Go.Proofs.YtappgjdnfllblaaDoor
