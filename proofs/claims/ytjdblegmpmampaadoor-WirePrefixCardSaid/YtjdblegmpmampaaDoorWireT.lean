/- Wire: a law's value is written, and compared with what is read. -/
import Derived.Test.YtjdblegmpmampaaDoorWireS
import Derived.Test.YtjdblegmpmampaaDoorWireG
set_option linter.unusedSimpArgs false
set_option linter.unusedVariables false
namespace Go.Proofs.YtjdblegmpmampaaDoor
open Go.RowKit Go.IntWalk

theorem l1_bound {L : List Int} (hi : ∀ x ∈ L, I64 x) (hl : L.length ≤ 400) : (L.map encI).flatten.length ≤ 1000000000000 := by
  have := flat_bound (L.map encI) 22 (by
    intro y hy
    obtain ⟨x, hx, rfl⟩ := List.mem_map.1 hy
    have hi := hi x hx
    have := Lib.itoa_length_le x hi.1 hi.2
    simp [encI]; omega)
  simp at this
  simp only [List.length_flatten, List.map_map] at *
  omega
theorem l2_bound {T : List ByteArray} (hb : ∀ s ∈ T, s.size ≤ 400) (hl : T.length ≤ 400) : (T.map encB).flatten.length ≤ 1000000000000 := by
  have := flat_bound (T.map encB) 500 (by
    intro y hy
    obtain ⟨x, hx, rfl⟩ := List.mem_map.1 hy
    have h := hb x hx
    have h1 := Lib.itoa_length_le (x.data.toList.length : Int) (by omega) (by rw [← size_list]; omega)
    have h2 := size_list x
    rw [encB, encT]
    simp only [List.length_append, List.length_cons, List.length_nil]
    omega)
  simp at this
  simp only [List.length_flatten, List.map_map] at *
  omega
abbrev vAgg (v0 v1 : Int) (S : ByteArray) (A1 : Option Addr) (n1 c1 : Nat) (A2 : Option Addr) (n2 c2 : Nat) : Array Value := #[.int .i64 v0, .int .i64 v1, .string S, .slice A1 n1 c1, .slice A2 n2 c2]
theorem toL_inv (T : List ByteArray) : (T.map (fun s => s.data.toList)).map bs = T := by
  rw [List.map_map]
  conv => rhs; rw [← List.map_id T]
  apply List.map_congr_left
  intro s _
  exact bs_of s
theorem toL_enc (T : List ByteArray) : (T.map (fun s => s.data.toList)).map encT = T.map encB := by
  rw [List.map_map]; rfl

set_option maxHeartbeats 1000000 in
theorem write_any (v0 v1 : Int) (S : ByteArray) (A1 : Option Addr) (c1 : Nat) (L : List Int) (A2 : Option Addr) (c2 : Nat) (T : List ByteArray) (w : World) (h0 : I64 v0) (h1 : I64 v1) (h3 : L.length ≤ c1) (h4 : c1 ≤ maxLen) (h5 : SlR w w.heap.size A1 L) (h6 : T.length ≤ c2) (h7 : c2 ≤ maxLen) (h8 : SlR w w.heap.size A2 T) (ho : Ok (v0, v1, S, L, T)) (he : Env w) :
    Calls Tryd.prog 30 #[.agg #[.int .i64 v0, .int .i64 v1, .string S, .slice A1 L.length c1, .slice A2 T.length c2]] w fun e w' => e = .returned (.string (bs (encV (v0, v1, S, L, T)))) ∧ Below w.heap.size w w' := by
  have Ho := hid ho
  clear ho
  have hb0 := hid (show Below w.heap.size w (w.alloc (Obj.cells #[.int .i64 v0, .int .i64 v1, .string S, .slice A1 L.length c1, .slice A2 T.length c2] 25)) by (repeat (first | exact Below.refl _ _ | assumption | refine below_drewN ?_ _ | refine Below.drew ?_ | refine Below.alloc ?_ (by (try simp); (try omega)) _ | refine Below.setCell ?_ (by (try simp); (try omega)) _)))
  have hcase : kd v0 = 0 ∨ kd v0 = 1 ∨ kd v0 = 2 ∨ kd v0 = 3 ∨ kd v0 = 4 := by have := kd_bd v0; omega
  rcases hcase with hk | hk | hk | hk | hk
  · have hE := hid (show encV (v0, v1, S, L, T) = encI (nn v1) by simp [encV, hk])
    have hk' := hid hk
    clear hk
    go_enter Tryd.func30, Tryd.ntmps30
    go_wp2_with fail
    refine (kind_any v0 v1 S A1 _ c1 A2 _ c2 _ h0).mono ?_
    rw [hk'.out]
    rintro e w1 ⟨rfl, hB⟩
    have hB1 := hid (hb0.out.trans (hB.mono hb0.out.size))
    have bx := hid ((Blk.new w 25 #[.int .i64 v0, .int .i64 v1, .string S, .slice A1 L.length c1, .slice A2 T.length c2]).below hB (by simp))
    clear hB hb0
    have x1 := bx.out.cell 1
    simp at x1
    go_wp2_with fail
    refine (nn_any v1 h1 w1).mono ?_
    rintro e w2 ⟨rfl, hB⟩
    have hB2 := hid (hB1.out.trans (hB.mono hB1.out.size))
    clear hB hB1
    go_wp2_with fail
    refine (wNum_any (nn v1) (nn_bd v1 h1).2 w2 (he.below hB2.out)).mono ?_
    rw [if_neg (by have := (nn_bd v1 h1).1; omega)]
    rintro e w3 ⟨rfl, hB⟩
    have hB3 := hid (hB2.out.trans (hB.mono hB2.out.size))
    clear hB hB2
    go_wp2_with fail
    go_ret
    exact ⟨ret_str (by rw [hE.out]), hB3.out⟩
  · have hE := hid (show encV (v0, v1, S, L, T) = encI v1 by simp [encV, hk])
    have hk' := hid hk
    clear hk
    go_enter Tryd.func30, Tryd.ntmps30
    go_wp2_with fail
    refine (kind_any v0 v1 S A1 _ c1 A2 _ c2 _ h0).mono ?_
    rw [hk'.out]
    rintro e w1 ⟨rfl, hB⟩
    have hB1 := hid (hb0.out.trans (hB.mono hb0.out.size))
    have bx := hid ((Blk.new w 25 #[.int .i64 v0, .int .i64 v1, .string S, .slice A1 L.length c1, .slice A2 T.length c2]).below hB (by simp))
    clear hB hb0
    have x1 := bx.out.cell 1
    simp at x1
    go_wp2_with fail
    refine (wInt_any v1 h1 w1 (he.below hB1.out)).mono ?_
    rintro e w2 ⟨rfl, hB⟩
    have hB2 := hid (hB1.out.trans (hB.mono hB1.out.size))
    clear hB hB1
    go_wp2_with fail
    go_ret
    exact ⟨ret_str (by rw [hE.out]), hB2.out⟩
  · have hE := hid (show encV (v0, v1, S, L, T) = encT S.data.toList by simp [encV, hk])
    have hk' := hid hk
    clear hk
    go_enter Tryd.func30, Tryd.ntmps30
    go_wp2_with fail
    refine (kind_any v0 v1 S A1 _ c1 A2 _ c2 _ h0).mono ?_
    rw [hk'.out]
    rintro e w1 ⟨rfl, hB⟩
    have hB1 := hid (hb0.out.trans (hB.mono hb0.out.size))
    have bx := hid ((Blk.new w 25 #[.int .i64 v0, .int .i64 v1, .string S, .slice A1 L.length c1, .slice A2 T.length c2]).below hB (by simp))
    clear hB hb0
    have x2 := bx.out.cell 2
    simp at x2
    go_wp2_with fail
    refine (wText_any S (by have := Ho.out.s; simp at this; omega) w1 (he.below hB1.out)).mono ?_
    rintro e w2 ⟨rfl, hB⟩
    have hB2 := hid (hB1.out.trans (hB.mono hB1.out.size))
    clear hB hB1
    go_wp2_with fail
    go_ret
    exact ⟨ret_str (by rw [hE.out]), hB2.out⟩
  · have hE := hid (show encV (v0, v1, S, L, T) = encL (L.map encI) by simp [encV, hk])
    have hk' := hid hk
    clear hk
    go_enter Tryd.func30, Tryd.ntmps30
    go_wp2_with fail
    refine (kind_any v0 v1 S A1 _ c1 A2 _ c2 _ h0).mono ?_
    rw [hk'.out]
    rintro e w1 ⟨rfl, hB⟩
    have hB1 := hid (hb0.out.trans (hB.mono hb0.out.size))
    have bx := hid ((Blk.new w 25 #[.int .i64 v0, .int .i64 v1, .string S, .slice A1 L.length c1, .slice A2 T.length c2]).below hB (by simp))
    clear hB hb0
    have x3 := bx.out.cell 3
    simp at x3
    go_wp2_with fail
    refine (wNums_any A1 c1 L w1 (l1_bound h5.ints Ho.out.l) (by have := Ho.out.l; simp at this; omega) ((h5.below hB1.out).more hB1.out.size) (he.below hB1.out)).mono ?_
    rintro e w2 ⟨rfl, hB⟩
    have hB2 := hid (hB1.out.trans (hB.mono hB1.out.size))
    clear hB hB1
    go_wp2_with fail
    go_ret
    exact ⟨ret_str (by rw [hE.out]), hB2.out⟩
  · have hE := hid (show encV (v0, v1, S, L, T) = encL (T.map encB) by simp [encV, hk])
    have hk' := hid hk
    clear hk
    go_enter Tryd.func30, Tryd.ntmps30
    go_wp2_with fail
    refine (kind_any v0 v1 S A1 _ c1 A2 _ c2 _ h0).mono ?_
    rw [hk'.out]
    rintro e w1 ⟨rfl, hB⟩
    have hB1 := hid (hb0.out.trans (hB.mono hb0.out.size))
    have bx := hid ((Blk.new w 25 #[.int .i64 v0, .int .i64 v1, .string S, .slice A1 L.length c1, .slice A2 T.length c2]).below hB (by simp))
    clear hB hb0
    have x4 := bx.out.cell 4
    simp at x4
    go_wp2_with fail
    refine (wTexts_any A2 c2 T w1 (l2_bound Ho.out.e Ho.out.t) (by have := Ho.out.t; simp at this; omega) (fun s hs => Nat.le_trans (Ho.out.e s hs) (by decide)) ((h8.below hB1.out).more hB1.out.size) (he.below hB1.out)).mono ?_
    rintro e w2 ⟨rfl, hB⟩
    have hB2 := hid (hB1.out.trans (hB.mono hB1.out.size))
    clear hB hB1
    go_wp2_with fail
    go_ret
    exact ⟨ret_str (by rw [hE.out]), hB2.out⟩

/-- Block b reads on behind the value's encoding. -/
def EqRes (w : World) (b : Nat) (rest : List UInt8) (e : Ending) (w' : World) : Prop := e = .returned (.bool true) ∧ Rd w' b rest false ∧ w.grownBy w' (some b)
theorem grown_cell {w w' : World} {b : Nat} (h : w.grownBy w' (some b)) (k o : Nat) (hk : k < w.heap.size) (hne : k ≠ b) : w'.cell? ⟨k, o, none⟩ = w.cell? ⟨k, o, none⟩ :=
  cell_kept (p := ⟨k, o, none⟩) (h.block k hk (by intro e; injection e with e; exact hne e))
theorem bg {w0 w w' : World} {b : Nat} (h : Below w0.heap.size w0 w) (hg : w.grownBy w' (some b)) (hb : w0.heap.size ≤ b) : Below w0.heap.size w0 w' := h.grown hg h.size (fun k e => by injection e with e; omega)
set_option maxHeartbeats 1000000 in
theorem equal_0 (v0 v1 : Int) (S : ByteArray) (A1 : Option Addr) (c1 : Nat) (L : List Int) (A2 : Option Addr) (c2 : Nat) (T : List ByteArray) (w0 : World) (h0 : I64 v0) (h1 : I64 v1) (h3 : L.length ≤ c1) (h4 : c1 ≤ maxLen) (h5 : SlR w0 w0.heap.size A1 L) (h6 : T.length ≤ c2) (h7 : c2 ≤ maxLen) (h8 : SlR w0 w0.heap.size A2 T) (ho : Ok (v0, v1, S, L, T)) (he : Env w0)
    (b : Nat) (hb : w0.heap.size ≤ b) (w : World) (hbw : Below w0.heap.size w0 w) (rest : List UInt8) (hR : Rd w b (encV (v0, v1, S, L, T) ++ rest) false) (hl : (encV (v0, v1, S, L, T) ++ rest).length ≤ 1000000000000) (hk : kd v0 = 0) :
    Calls Tryd.prog 31 #[.pointer (some ⟨b, 0, none⟩), .agg #[.int .i64 v0, .int .i64 v1, .string S, .slice A1 L.length c1, .slice A2 T.length c2]] w (EqRes w b rest) := by
  have Ho := hid ho
  clear ho
  have hE := hid (show encV (v0, v1, S, L, T) = encI (nn v1) by simp [encV, hk])
  have hbz := hR.lt
  have cN : Hid (∀ x : World, Rd x b (encV (v0, v1, S, L, T) ++ rest) false → Below w0.heap.size w0 x → Calls Tryd.prog 23 #[.pointer (some ⟨b, 0, none⟩)] x fun e w' => e = .returned (.int .i64 (nn v1)) ∧ Rd w' b rest false ∧ x.grownBy w' (some b)) := hid (by
      intro x hx hbx
      have hex := he.below hbx
      have hl' := hl
      rw [hE.out] at hx hl'
      have := num_any b _ false x hx hl' hex
      rw [show numL (encI (nn v1) ++ rest) 59 0 = some (nn v1, rest) by rw [encI, List.append_assoc]; exact numL_itoa (nn v1) (nn_bd v1 h1).2 59 0 rest (by decide) (nn_bd v1 h1).1] at this
      exact this)
  have hk' := hid hk
  clear hk
  have hb0 := hid (show Below w.heap.size w (w.alloc (Obj.cells #[.int .i64 v0, .int .i64 v1, .string S, .slice A1 L.length c1, .slice A2 T.length c2] 25)) by (repeat (first | exact Below.refl _ _ | assumption | refine below_drewN ?_ _ | refine Below.drew ?_ | refine Below.alloc ?_ (by (try simp); (try omega)) _ | refine Below.setCell ?_ (by (try simp); (try omega)) _)))
  go_enter Tryd.func31, Tryd.ntmps31
  go_wp2_with fail
  refine (kind_any v0 v1 S A1 _ c1 A2 _ c2 _ h0).mono ?_
  rw [hk'.out]
  rintro e w1 ⟨rfl, hB⟩
  have hB1 := hid (hb0.out.trans (hB.mono hb0.out.size))
  have bx := hid ((Blk.new w 25 #[.int .i64 v0, .int .i64 v1, .string S, .slice A1 L.length c1, .slice A2 T.length c2]).below hB (by simp))
  have hR1 := hid (Blk.below hR hB1.out hR.lt)
  have hbw1 := hid (hbw.trans (hB1.out.mono hbw.size))
  have z1 := hB.size
  simp at z1
  clear hB hb0
  have x1 := bx.out.cell 1
  simp at x1
  go_upto_region 3 with fail
  go_region_held3 (fun w' => w'.cell? ⟨w.heap.size, 1, none⟩ = some (.int .i64 v1))
    (first | assumption | go_keep)
    (first | (go_at_call 23; refine (cN.out _ (by exact hR1.out) hbw1.out.drew).mono ?_; rintro e w2 ⟨rfl, hR2, hg2⟩; have s1 := (grown_cell hg2 w.heap.size 1 (by simp; omega) (by omega)); have s1 := s1.trans (show _ = _ from x1); have z2 := hg2.size; simp at z2) | (go_at_call 53; refine (nn_any v1 h1 _).mono ?_; rintro e w3 ⟨rfl, hB3⟩; have s2 := bcell hB3 w.heap.size 1 (by (try simp); (try omega)); rw [s1] at s2))
  go_wp2_with fail
  go_ret
  exact ⟨rfl, (Blk.below hR2 hB3 hR2.lt), grown_trans (grown_below hB1.out.drew) (grown_trans hg2 (grown_below hB3))⟩
set_option maxHeartbeats 1000000 in
theorem equal_1 (v0 v1 : Int) (S : ByteArray) (A1 : Option Addr) (c1 : Nat) (L : List Int) (A2 : Option Addr) (c2 : Nat) (T : List ByteArray) (w0 : World) (h0 : I64 v0) (h1 : I64 v1) (h3 : L.length ≤ c1) (h4 : c1 ≤ maxLen) (h5 : SlR w0 w0.heap.size A1 L) (h6 : T.length ≤ c2) (h7 : c2 ≤ maxLen) (h8 : SlR w0 w0.heap.size A2 T) (ho : Ok (v0, v1, S, L, T)) (he : Env w0)
    (b : Nat) (hb : w0.heap.size ≤ b) (w : World) (hbw : Below w0.heap.size w0 w) (rest : List UInt8) (hR : Rd w b (encV (v0, v1, S, L, T) ++ rest) false) (hl : (encV (v0, v1, S, L, T) ++ rest).length ≤ 1000000000000) (hk : kd v0 = 1) :
    Calls Tryd.prog 31 #[.pointer (some ⟨b, 0, none⟩), .agg #[.int .i64 v0, .int .i64 v1, .string S, .slice A1 L.length c1, .slice A2 T.length c2]] w (EqRes w b rest) := by
  have Ho := hid ho
  clear ho
  have hE := hid (show encV (v0, v1, S, L, T) = encI v1 by simp [encV, hk])
  have hbz := hR.lt
  have cN : Hid (∀ x : World, Rd x b (encV (v0, v1, S, L, T) ++ rest) false → Below w0.heap.size w0 x → Calls Tryd.prog 24 #[.pointer (some ⟨b, 0, none⟩)] x fun e w' => e = .returned (.int .i64 v1) ∧ Rd w' b rest false ∧ x.grownBy w' (some b)) := hid (by
      intro x hx hbx
      have hex := he.below hbx
      have hl' := hl
      rw [hE.out] at hx hl'
      have := int_any b _ false x hx hl' hex
      rw [intL_enc v1 h1 rest] at this
      exact this)
  have hk' := hid hk
  clear hk
  have hb0 := hid (show Below w.heap.size w (w.alloc (Obj.cells #[.int .i64 v0, .int .i64 v1, .string S, .slice A1 L.length c1, .slice A2 T.length c2] 25)) by (repeat (first | exact Below.refl _ _ | assumption | refine below_drewN ?_ _ | refine Below.drew ?_ | refine Below.alloc ?_ (by (try simp); (try omega)) _ | refine Below.setCell ?_ (by (try simp); (try omega)) _)))
  go_enter Tryd.func31, Tryd.ntmps31
  go_wp2_with fail
  refine (kind_any v0 v1 S A1 _ c1 A2 _ c2 _ h0).mono ?_
  rw [hk'.out]
  rintro e w1 ⟨rfl, hB⟩
  have hB1 := hid (hb0.out.trans (hB.mono hb0.out.size))
  have bx := hid ((Blk.new w 25 #[.int .i64 v0, .int .i64 v1, .string S, .slice A1 L.length c1, .slice A2 T.length c2]).below hB (by simp))
  have hR1 := hid (Blk.below hR hB1.out hR.lt)
  have hbw1 := hid (hbw.trans (hB1.out.mono hbw.size))
  have z1 := hB.size
  simp at z1
  clear hB hb0
  have x1 := bx.out.cell 1
  simp at x1
  go_upto_region 5 with fail
  go_region_held3 (fun w' => w'.cell? ⟨w.heap.size, 1, none⟩ = some (.int .i64 v1))
    (first | assumption | go_keep)
    (first | (go_at_call 24; refine (cN.out _ (by exact hR1.out) hbw1.out.drew).mono ?_; rintro e w2 ⟨rfl, hR2, hg2⟩; have s1 := (grown_cell hg2 w.heap.size 1 (by simp; omega) (by omega)); have s1 := s1.trans (show _ = _ from x1); have z2 := hg2.size; simp at z2))
  go_wp2_with fail
  go_ret
  exact ⟨rfl, hR2, grown_trans (grown_below hB1.out.drew) hg2⟩
set_option maxHeartbeats 1000000 in
theorem equal_2 (v0 v1 : Int) (S : ByteArray) (A1 : Option Addr) (c1 : Nat) (L : List Int) (A2 : Option Addr) (c2 : Nat) (T : List ByteArray) (w0 : World) (h0 : I64 v0) (h1 : I64 v1) (h3 : L.length ≤ c1) (h4 : c1 ≤ maxLen) (h5 : SlR w0 w0.heap.size A1 L) (h6 : T.length ≤ c2) (h7 : c2 ≤ maxLen) (h8 : SlR w0 w0.heap.size A2 T) (ho : Ok (v0, v1, S, L, T)) (he : Env w0)
    (b : Nat) (hb : w0.heap.size ≤ b) (w : World) (hbw : Below w0.heap.size w0 w) (rest : List UInt8) (hR : Rd w b (encV (v0, v1, S, L, T) ++ rest) false) (hl : (encV (v0, v1, S, L, T) ++ rest).length ≤ 1000000000000) (hk : kd v0 = 2) :
    Calls Tryd.prog 31 #[.pointer (some ⟨b, 0, none⟩), .agg #[.int .i64 v0, .int .i64 v1, .string S, .slice A1 L.length c1, .slice A2 T.length c2]] w (EqRes w b rest) := by
  have Ho := hid ho
  clear ho
  have hE := hid (show encV (v0, v1, S, L, T) = encT S.data.toList by simp [encV, hk])
  have hbz := hR.lt
  have cN : Hid (∀ x : World, Rd x b (encV (v0, v1, S, L, T) ++ rest) false → Below w0.heap.size w0 x → Calls Tryd.prog 25 #[.pointer (some ⟨b, 0, none⟩)] x fun e w' => e = .returned (.string S) ∧ Rd w' b rest false ∧ x.grownBy w' (some b)) := hid (by
      intro x hx hbx
      have hex := he.below hbx
      have hl' := hl
      rw [hE.out] at hx hl'
      have := text_any b _ false x hx (by intro h; cases h) hl' hex
      rw [textL_encT _ rest (by rw [← size_list]; have := Ho.out.s; simp at this; omega)] at this
      refine this.mono ?_
      rintro e w' ⟨rfl, hr, hg⟩
      exact ⟨ret_str (bs_of S), hr, hg⟩)
  have hk' := hid hk
  clear hk
  have hb0 := hid (show Below w.heap.size w (w.alloc (Obj.cells #[.int .i64 v0, .int .i64 v1, .string S, .slice A1 L.length c1, .slice A2 T.length c2] 25)) by (repeat (first | exact Below.refl _ _ | assumption | refine below_drewN ?_ _ | refine Below.drew ?_ | refine Below.alloc ?_ (by (try simp); (try omega)) _ | refine Below.setCell ?_ (by (try simp); (try omega)) _)))
  go_enter Tryd.func31, Tryd.ntmps31
  go_wp2_with fail
  refine (kind_any v0 v1 S A1 _ c1 A2 _ c2 _ h0).mono ?_
  rw [hk'.out]
  rintro e w1 ⟨rfl, hB⟩
  have hB1 := hid (hb0.out.trans (hB.mono hb0.out.size))
  have bx := hid ((Blk.new w 25 #[.int .i64 v0, .int .i64 v1, .string S, .slice A1 L.length c1, .slice A2 T.length c2]).below hB (by simp))
  have hR1 := hid (Blk.below hR hB1.out hR.lt)
  have hbw1 := hid (hbw.trans (hB1.out.mono hbw.size))
  have z1 := hB.size
  simp at z1
  clear hB hb0
  have x2 := bx.out.cell 2
  simp at x2
  go_upto_region 7 with fail
  go_region_held3 (fun w' => w'.cell? ⟨w.heap.size, 2, none⟩ = some (.string S))
    (first | assumption | go_keep)
    (first | (go_at_call 25; refine (cN.out _ (by exact hR1.out) hbw1.out.drew).mono ?_; rintro e w2 ⟨rfl, hR2, hg2⟩; have s1 := (grown_cell hg2 w.heap.size 2 (by simp; omega) (by omega)); have s1 := s1.trans (show _ = _ from x2); have z2 := hg2.size; simp at z2))
  go_wp2_with fail
  go_ret
  exact ⟨rfl, hR2, grown_trans (grown_below hB1.out.drew) hg2⟩
set_option maxHeartbeats 1000000 in
theorem equal_3 (v0 v1 : Int) (S : ByteArray) (A1 : Option Addr) (c1 : Nat) (L : List Int) (A2 : Option Addr) (c2 : Nat) (T : List ByteArray) (w0 : World) (h0 : I64 v0) (h1 : I64 v1) (h3 : L.length ≤ c1) (h4 : c1 ≤ maxLen) (h5 : SlR w0 w0.heap.size A1 L) (h6 : T.length ≤ c2) (h7 : c2 ≤ maxLen) (h8 : SlR w0 w0.heap.size A2 T) (ho : Ok (v0, v1, S, L, T)) (he : Env w0)
    (b : Nat) (hb : w0.heap.size ≤ b) (w : World) (hbw : Below w0.heap.size w0 w) (rest : List UInt8) (hR : Rd w b (encV (v0, v1, S, L, T) ++ rest) false) (hl : (encV (v0, v1, S, L, T) ++ rest).length ≤ 1000000000000) (hk : kd v0 = 3) :
    Calls Tryd.prog 31 #[.pointer (some ⟨b, 0, none⟩), .agg #[.int .i64 v0, .int .i64 v1, .string S, .slice A1 L.length c1, .slice A2 T.length c2]] w (EqRes w b rest) := by
  have Ho := hid ho
  clear ho
  have hE := hid (show encV (v0, v1, S, L, T) = encL (L.map encI) by simp [encV, hk])
  have hbz := hR.lt
  have cN : Hid (∀ x : World, Rd x b (encV (v0, v1, S, L, T) ++ rest) false → Below w0.heap.size w0 x → Calls Tryd.prog 26 #[.pointer (some ⟨b, 0, none⟩)] x fun e w' => ∃ A' c', e = .returned (.slice A' L.length c') ∧ SlR w' w'.heap.size A' L ∧ Rd w' b rest false ∧ x.grownBy w' (some b)) := hid (by
      intro x hx hbx
      have hex := he.below hbx
      have hl' := hl
      rw [hE.out] at hx hl'
      have := numsR_any w0 he b hb _ false x hbx hx (by intro h; cases h) hl'
      rw [listL_enc fI encI L rest (by have := Ho.out.l; simp at this; omega) (fun y hy r => intL_enc y (h5.ints y hy) r)] at this
      refine this.mono ?_
      rintro e w' ⟨v, rfl, ho1, hr, hg⟩
      obtain ⟨A', c', rfl, _, _, hs⟩ := ho1.slr h5.ints
      exact ⟨A', c', rfl, hs, hr, hg⟩)
  have hk' := hid hk
  clear hk
  have hb0 := hid (show Below w.heap.size w (w.alloc (Obj.cells #[.int .i64 v0, .int .i64 v1, .string S, .slice A1 L.length c1, .slice A2 T.length c2] 25)) by (repeat (first | exact Below.refl _ _ | assumption | refine below_drewN ?_ _ | refine Below.drew ?_ | refine Below.alloc ?_ (by (try simp); (try omega)) _ | refine Below.setCell ?_ (by (try simp); (try omega)) _)))
  go_enter Tryd.func31, Tryd.ntmps31
  go_wp2_with fail
  refine (kind_any v0 v1 S A1 _ c1 A2 _ c2 _ h0).mono ?_
  rw [hk'.out]
  rintro e w1 ⟨rfl, hB⟩
  have hB1 := hid (hb0.out.trans (hB.mono hb0.out.size))
  have bx := hid ((Blk.new w 25 #[.int .i64 v0, .int .i64 v1, .string S, .slice A1 L.length c1, .slice A2 T.length c2]).below hB (by simp))
  have hR1 := hid (Blk.below hR hB1.out hR.lt)
  have hbw1 := hid (hbw.trans (hB1.out.mono hbw.size))
  have z1 := hB.size
  simp at z1
  clear hB hb0
  have x3 := bx.out.cell 3
  simp at x3
  go_upto_region 9 with fail
  go_region_held3 (fun w' => w'.cell? ⟨w.heap.size, 3, none⟩ = some (.slice A1 L.length c1))
    (first | assumption | go_keep)
    (first | (go_at_call 26; refine (cN.out _ (by exact hR1.out) hbw1.out.drew).mono ?_; rintro e w2 ⟨A', c', rfl, hs2, hR2, hg2⟩; have s1 := (grown_cell hg2 w.heap.size 3 (by simp; omega) (by omega)); have s1 := s1.trans (show _ = _ from x3); have z2 := hg2.size; simp at z2) | (go_at_call 36; refine (sameNums_any A' A1 c' c1 L L w2 hs2 ((h5.below (bg hbw1.out.drew hg2 hb)).more (bg hbw1.out.drew hg2 hb).size) (by omega) (by omega)).mono ?_; rw [decide_eq_true rfl]; rintro e w3 ⟨rfl, hB3⟩; have s2 := bcell hB3 w.heap.size 3 (by (try simp); (try omega)); rw [s1] at s2))
  go_wp2_with fail
  go_ret
  exact ⟨rfl, (Blk.below hR2 hB3 hR2.lt), grown_trans (grown_below hB1.out.drew) (grown_trans hg2 (grown_below hB3))⟩
set_option maxHeartbeats 1000000 in
theorem equal_4 (v0 v1 : Int) (S : ByteArray) (A1 : Option Addr) (c1 : Nat) (L : List Int) (A2 : Option Addr) (c2 : Nat) (T : List ByteArray) (w0 : World) (h0 : I64 v0) (h1 : I64 v1) (h3 : L.length ≤ c1) (h4 : c1 ≤ maxLen) (h5 : SlR w0 w0.heap.size A1 L) (h6 : T.length ≤ c2) (h7 : c2 ≤ maxLen) (h8 : SlR w0 w0.heap.size A2 T) (ho : Ok (v0, v1, S, L, T)) (he : Env w0)
    (b : Nat) (hb : w0.heap.size ≤ b) (w : World) (hbw : Below w0.heap.size w0 w) (rest : List UInt8) (hR : Rd w b (encV (v0, v1, S, L, T) ++ rest) false) (hl : (encV (v0, v1, S, L, T) ++ rest).length ≤ 1000000000000) (hk : kd v0 = 4) :
    Calls Tryd.prog 31 #[.pointer (some ⟨b, 0, none⟩), .agg #[.int .i64 v0, .int .i64 v1, .string S, .slice A1 L.length c1, .slice A2 T.length c2]] w (EqRes w b rest) := by
  have Ho := hid ho
  clear ho
  have hE := hid (show encV (v0, v1, S, L, T) = encL (T.map encB) by simp [encV, hk])
  have hbz := hR.lt
  have cN : Hid (∀ x : World, Rd x b (encV (v0, v1, S, L, T) ++ rest) false → Below w0.heap.size w0 x → Calls Tryd.prog 27 #[.pointer (some ⟨b, 0, none⟩)] x fun e w' => ∃ A' c', e = .returned (.slice A' T.length c') ∧ SlR w' w'.heap.size A' T ∧ Rd w' b rest false ∧ x.grownBy w' (some b)) := hid (by
      intro x hx hbx
      have hex := he.below hbx
      have hl' := hl
      rw [hE.out] at hx hl'
      have := textsR_any w0 he b hb _ false x hbx hx (by intro h; cases h) hl'
      rw [← toL_enc, listL_enc textL encT (T.map (fun s => s.data.toList)) rest (by have := Ho.out.t; simp at this ⊢; omega) (fun y hy r => textL_encT y r (by
        obtain ⟨z, hz, rfl⟩ := List.mem_map.1 hy
        have := Ho.out.e z hz
        rw [← size_list]
        omega))] at this
      refine this.mono ?_
      rintro e w' ⟨v, rfl, ho1, hr, hg⟩
      obtain ⟨A', c', rfl, _, _, hs⟩ := ho1.slr (by
        intro y hy
        obtain ⟨z, hz, rfl⟩ := List.mem_map.1 hy
        have := Ho.out.e z hz
        rw [← size_list]
        unfold maxLen
        omega)
      rw [toL_inv] at hs
      rw [List.length_map]
      exact ⟨A', c', rfl, hs, hr, hg⟩)
  have hk' := hid hk
  clear hk
  have hb0 := hid (show Below w.heap.size w (w.alloc (Obj.cells #[.int .i64 v0, .int .i64 v1, .string S, .slice A1 L.length c1, .slice A2 T.length c2] 25)) by (repeat (first | exact Below.refl _ _ | assumption | refine below_drewN ?_ _ | refine Below.drew ?_ | refine Below.alloc ?_ (by (try simp); (try omega)) _ | refine Below.setCell ?_ (by (try simp); (try omega)) _)))
  go_enter Tryd.func31, Tryd.ntmps31
  go_wp2_with fail
  refine (kind_any v0 v1 S A1 _ c1 A2 _ c2 _ h0).mono ?_
  rw [hk'.out]
  rintro e w1 ⟨rfl, hB⟩
  have hB1 := hid (hb0.out.trans (hB.mono hb0.out.size))
  have bx := hid ((Blk.new w 25 #[.int .i64 v0, .int .i64 v1, .string S, .slice A1 L.length c1, .slice A2 T.length c2]).below hB (by simp))
  have hR1 := hid (Blk.below hR hB1.out hR.lt)
  have hbw1 := hid (hbw.trans (hB1.out.mono hbw.size))
  have z1 := hB.size
  simp at z1
  clear hB hb0
  have x4 := bx.out.cell 4
  simp at x4
  go_upto_region 10 with fail
  go_region_held3 (fun w' => w'.cell? ⟨w.heap.size, 4, none⟩ = some (.slice A2 T.length c2))
    (first | assumption | go_keep)
    (first | (go_at_call 27; refine (cN.out _ (by exact hR1.out) hbw1.out.drew).mono ?_; rintro e w2 ⟨A', c', rfl, hs2, hR2, hg2⟩; have s1 := (grown_cell hg2 w.heap.size 4 (by simp; omega) (by omega)); have s1 := s1.trans (show _ = _ from x4); have z2 := hg2.size; simp at z2) | (go_at_call 38; refine (sameTexts_any A' A2 c' c2 T T w2 hs2 ((h8.below (bg hbw1.out.drew hg2 hb)).more (bg hbw1.out.drew hg2 hb).size) (by omega) (by omega)).mono ?_; rw [decide_eq_true rfl]; rintro e w3 ⟨rfl, hB3⟩; have s2 := bcell hB3 w.heap.size 4 (by (try simp); (try omega)); rw [s1] at s2))
  go_wp2_with fail
  go_ret
  exact ⟨rfl, (Blk.below hR2 hB3 hR2.lt), grown_trans (grown_below hB1.out.drew) (grown_trans hg2 (grown_below hB3))⟩
theorem equal_any (v0 v1 : Int) (S : ByteArray) (A1 : Option Addr) (c1 : Nat) (L : List Int) (A2 : Option Addr) (c2 : Nat) (T : List ByteArray) (w0 : World) (h0 : I64 v0) (h1 : I64 v1) (h3 : L.length ≤ c1) (h4 : c1 ≤ maxLen) (h5 : SlR w0 w0.heap.size A1 L) (h6 : T.length ≤ c2) (h7 : c2 ≤ maxLen) (h8 : SlR w0 w0.heap.size A2 T) (ho : Ok (v0, v1, S, L, T)) (he : Env w0)
    (b : Nat) (hb : w0.heap.size ≤ b) (w : World) (hbw : Below w0.heap.size w0 w) (rest : List UInt8) (hR : Rd w b (encV (v0, v1, S, L, T) ++ rest) false) (hl : (encV (v0, v1, S, L, T) ++ rest).length ≤ 1000000000000) :
    Calls Tryd.prog 31 #[.pointer (some ⟨b, 0, none⟩), .agg #[.int .i64 v0, .int .i64 v1, .string S, .slice A1 L.length c1, .slice A2 T.length c2]] w (EqRes w b rest) := by
  have hcase : kd v0 = 0 ∨ kd v0 = 1 ∨ kd v0 = 2 ∨ kd v0 = 3 ∨ kd v0 = 4 := by have := kd_bd v0; omega
  rcases hcase with hk | hk | hk | hk | hk
  · exact equal_0 v0 v1 S A1 c1 L A2 c2 T w0 h0 h1 h3 h4 h5 h6 h7 h8 ho he b hb w hbw rest hR hl hk
  · exact equal_1 v0 v1 S A1 c1 L A2 c2 T w0 h0 h1 h3 h4 h5 h6 h7 h8 ho he b hb w hbw rest hR hl hk
  · exact equal_2 v0 v1 S A1 c1 L A2 c2 T w0 h0 h1 h3 h4 h5 h6 h7 h8 ho he b hb w hbw rest hR hl hk
  · exact equal_3 v0 v1 S A1 c1 L A2 c2 T w0 h0 h1 h3 h4 h5 h6 h7 h8 ho he b hb w hbw rest hR hl hk
  · exact equal_4 v0 v1 S A1 c1 L A2 c2 T w0 h0 h1 h3 h4 h5 h6 h7 h8 ho he b hb w hbw rest hR hl hk
end Go.Proofs.YtjdblegmpmampaaDoor
