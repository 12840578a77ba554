
/- Petri: bits.TrailingZeros64; a word's places as a list. -/
import Derived.Test.YtbbogflibekgfaaDoorPetE
import Derived.Shelf.Spec.TrailingZeros
import Derived.Deep.AppendLies
import Derived.Deep.AppendSrc
set_option linter.unusedSimpArgs false
set_option linter.unusedVariables false
namespace Go.Proofs.YtbbogflibekgfaaDoor
open Go.RowKit Go.IntWalk Go.Shelf

/-- The table behind bits.TrailingZeros64 lies as its initialiser lays it. -/
def Env (w : World) : Prop := TabAt 0 Lib.deBruijn64tab w
set_option maxRecDepth 100000 in
set_option maxHeartbeats 1000000 in
theorem tz_core (x k idx : Nat) (w : World) (hx0 : ((x : Int) == 0) = false)
    (key : IntKind.u64.wrap (bits BinOp.and IntKind.u64 (x : Int) (IntKind.u64.wrap (-(x : Int))) * 285870213051353865) / 288230376151711744 = (idx : Int))
    (hi : idx < 64) (hk : k < 64) (hcell : w.cell? ⟨0, idx, none⟩ = some (.int .u8 k)) :
    Calls Tryd.prog 51 #[.int .u64 x] w fun e w' => e = .returned (.int .i64 k) ∧ w' = w := by
  go_enter Tryd.func51, Tryd.ntmps51
  go_wp2_with (simp only [key])
  go_ret
  exact ⟨rfl, rfl⟩
theorem tz_any (x : Nat) (hx : x < 18446744073709551616) (hx0 : x ≠ 0) (w : World) (hT : Env w) :
    Calls Tryd.prog 51 #[.int .u64 x] w fun e w' => e = .returned (.int .i64 (Lib.ctz 64 x)) ∧ w' = w := by
  obtain ⟨hlow, hk⟩ := Lib.lowest_bit 64 x hx0 hx
  obtain ⟨hi, htab⟩ := Lib.deBruijn64_at _ hk
  have hcell := hT _ hi
  rw [htab] at hcell
  exact tz_core x _ _ w (by simp; omega) (tz64_key x _ hx hx0 hlow) hi hk hcell
/-- append of one number whose cell is known: what the builtin does. -/
theorem run_appJ (W : World) (ty : TypeId) (base : Nat) (v : Value) (l : List Int) (hown : OwnI W base v l) (B c : Nat) (y : Int) (hb : W.cell? ⟨B, 0, none⟩ = some (.int .i64 y)) (hlen : l.length ≤ 10000000) (hbase : base ≤ W.heap.size) :
    ∃ g cap w', (Builtin.append_ #[25, 25] ty #[v, .slice (some ⟨B, 0, none⟩) 1 c]).run Tryd.prog W = .ok (.slice (some ⟨g, 0, none⟩) (l.length + 1) cap) w' ∧
      OwnI w' base (.slice (some ⟨g, 0, none⟩) (l.length + 1) cap) (l ++ [y]) ∧ W.grownBy w' v.ownBlock ∧ ((Value.slice (some ⟨g, 0, none⟩) (l.length + 1) cap).ownBlock = v.ownBlock ∨ (Value.slice (some ⟨g, 0, none⟩) (l.length + 1) cap).ownBlock = some W.heap.size) := by
  obtain ⟨i0, hi, hz0, hz1, hz2⟩ := info_parts infoInt
  obtain ⟨g, cap, w', h1, h2, h3, h4, _⟩ := Go.run_append_lies (P := Tryd.prog) W 25 ty base 3 i0 _ 1 8 Tryd.underlying25 hi hz0 hz1 hz2 rfl (by omega) v l.length _ hown ⟨B, 0, none⟩ 1 c [.int .i64 y] rfl
    (fun j u hu => by
      match j, hu with
      | 0, hu => simp only [List.getElem?_cons_zero, Option.some.injEq] at hu; subst hu; exact hb
      | j + 1, hu => simp at hu) (by simp [Value.oneCell']) (by omega) (by unfold maxLen; omega) (by omega) hbase _ rfl
  refine ⟨g, cap, w', h1, ?_, h3, ?_⟩
  · unfold OwnI
    rw [List.length_append, List.map_append]
    exact h2
  · rcases h4 with h4 | h4
    · exact .inl h4.symm
    · exact .inr (by rw [h4]; rfl)

open Go in
/-- append draws from the tape forward. -/
theorem app_drawn {P : Program} (w : World) (base : Nat) (t ty e : TypeId) (i : TypeInfo) (z : Value) (size bytes : Nat) (ht : P.underlying t = some (.slice e)) (hi : P.info? e = some i) (hz : i.zero = some z)
    (hsize : i.size = size) (hby : i.bytes = bytes)
    (v : Value) (n : Nat) (xs : List Value) (hown : w.ownsRow base e size v n xs)
    (a : Addr) (m c : Nat) (news : List Value) (hl : news.length = m * size) (hnews : ∀ j u, news[j]? = some u → w.cell? (a.add j) = some u) (h1 : ∀ u ∈ news, u.oneCell' = true)
    (h63 : n + m ≤ maxLen) (hbytes : (n + m) * bytes ≤ 140737488355328) (hm0 : 0 < m) {u : Value} {w' : World}
    (hr : (Builtin.append_ #[t, t] ty #[v, .slice (some a) m c]).run P w = .ok u w') : w.drawn ≤ w'.drawn := by
  subst hsize
  subst hby
  have hsmall : n + m ≤ 9223372036854775807 := by simp only [maxLen] at h63; omega
  rcases hown.2 with ⟨rfl, rfl⟩ | ⟨g, cap, cur, rfl, hbg, hg, hnc, hcm, hcs, htake⟩
  · have hr2 := run_append_nil (P := P) w t ty e i z ht hi hz a m c news hl hnews (by omega) (by omega) (by have hb := hbytes; simp only [Nat.zero_add] at hb; omega)
    rw [hr2] at hr
    injection hr with _ hr
    rw [← hr]
    exact Nat.le_succ _
  · by_cases hroom : n + m ≤ cap
    · have hfit : n * i.size + news.length ≤ cur.size := by rw [hl, hcs, ← Nat.add_mul]; exact Nat.mul_le_mul_right _ hroom
      have hr2 := run_append_room (P := P) w t ty e i ht hi g n cap cur hg a m c news hl hnews h1 hroom hfit
      rw [hr2] at hr
      injection hr with _ hr
      rw [← hr]
      exact Nat.le_refl _
    · have holds : ∀ j u, xs[j]? = some u → w.cell? ((⟨g, 0, none⟩ : Addr).add j) = some u := hown.cells (g := g) rfl
      have hr2 := run_append_grow (P := P) w t ty e i z ht hi hz ⟨g, 0, none⟩ n cap xs hown.1 holds a m c news hl hnews (by omega) (by omega) (growslice_fits (by omega) hbytes)
      rw [hr2] at hr
      injection hr with _ hr
      rw [← hr]
      exact Nat.le_succ _
theorem wp_appK {ops : Array Oper} {rest : List Oper} {o : Oper} {a : Act} {Q : Exit → Act → World → Prop} (w : World) (hgd : o.guard = none) (s x : Operand) (ho : o.op = .call { callee := .builtin .append, args := #[s, x], argTypes := #[25, 25] })
    (base : Nat) (v : Value) (l : List Int) (hs : a.eval s = v) (hown : OwnI w base v l) (B c : Nat) (y : Int) (hx : a.eval x = .slice (some ⟨B, 0, none⟩) 1 c) (hb : w.cell? ⟨B, 0, none⟩ = some (.int .i64 y)) (hlen : l.length ≤ 10000000) (hbase : base ≤ w.heap.size)
    (h : ∀ A cap w', OwnI w' base (.slice A (l.length + 1) cap) (l ++ [y]) → w.grownBy w' v.ownBlock → w.drawn ≤ w'.drawn → wpList Tryd.prog ops Q rest (a.put o.dst (.slice A (l.length + 1) cap)) w') : wpList Tryd.prog ops Q (o :: rest) a w := by
  obtain ⟨i0, hi, hz0, hz1, hz2⟩ := info_parts infoInt
  obtain ⟨g, cap, w', hr, h2, h3, h4⟩ := run_appJ w o.type base v l hown B c y hb hlen hbase
  have hd := app_drawn (P := Tryd.prog) w base 25 o.type 3 i0 _ 1 8 Tryd.underlying25 hi hz0 hz1 hz2 v l.length _ hown ⟨B, 0, none⟩ 1 c [.int .i64 y] rfl
    (fun j u hu => by
      match j, hu with
      | 0, hu => simp only [List.getElem?_cons_zero, Option.some.injEq] at hu; subst hu; exact hb
      | j + 1, hu => simp at hu) (by simp [Value.oneCell']) (by unfold maxLen; omega) (by omega) (by omega) hr
  refine wpList_plain hgd fun K hK => ?_
  unfold Oper.wp execOp
  simp only [ho, resolve, invoke, builtin, Sem.run_bind, Sem.run_pure, Result.andThen_ok, List.map_toArray, List.map_cons, List.map_nil, hs, hx, hr]
  exact hK _ _ (h (some ⟨g, 0, none⟩) cap w' h2 h3 hd)
theorem Env.below {w w' : World} (h : Env w) (hb : Below w.heap.size w w') (hz : 0 < w.heap.size) : Env w' := fun j hj => by rw [bcell hb 0 j hz]; exact h j hj
theorem Env.pos {w : World} (h : Env w) : 0 < w.heap.size := by
  have := h 0 (by decide)
  exact (cell_lt this).1
theorem listN_len (v : Nat) : (listN v).length ≤ 64 := by
  unfold listN
  rw [List.length_map]
  exact Nat.le_trans (List.length_filter_le _ _) (by simp)
theorem listN_i64 (v : Nat) : ∀ x ∈ listN v, I64 x := fun x hx => by
  have := list_mem.1 hx
  unfold I64
  omega
set_option maxRecDepth 100000 in
set_option maxHeartbeats 2000000 in
theorem list_any (v : Nat) (w : World) (hv : v < 2 ^ 64) (hE : Env w) :
    Calls Tryd.prog 34 #[.int .u64 (v : Nat)] w fun e w' => ∃ A c, e = .returned (.slice A (listN v).length c) ∧ OwnI w' w.heap.size (.slice A (listN v).length c) (listN v) ∧ Below w.heap.size w w' ∧ w.drawn ≤ w'.drawn := by
  have HL := hid (fun u (h : u ≠ 0) (h2 : u < 2 ^ 64) => list_step h h2)
  have HT := hid (fun u (h : u ≠ 0) (h2 : u < 2 ^ 64) (W : World) (hE2 : Env W) => tz_any u (by simpa using h2) h W hE2)
  have HP := hid hE.pos
  have HE := hid hE
  have hlen := hid (listN_len v)
  clear hE
  go_enter Tryd.func34, Tryd.ntmps34
  go_wp2_with fail
  go_loopw [0, 3] (fun x s wr => ∃ (u : Nat) (l : List Int) (A : Option Addr) (c : Nat), x = .int .u64 (u : Nat) ∧ u < 2 ^ 64 ∧ s = .slice A l.length c ∧ l ++ listN u = listN v ∧ OwnI wr w.heap.size (.slice A l.length c) l ∧ Below w.heap.size w wr ∧ w.drawn ≤ wr.drawn) (fun x _ _ => (intOf x).toNat)
  case atStart => exact ⟨v, [], none, 0, rfl, hv, rfl, by simp, OwnI.nil _ _, Below.refl _ _, Nat.le_refl _⟩
  case round =>
    obtain ⟨u, l, A, c, rfl, hu, rfl, hl, ho, hB, hd⟩ := hrel
    have HB := hid hB
    have HO := hid ho
    have HLv := hid hl
    have hl64 : l.length ≤ 64 := by
      have h1 := hlen.out
      rw [← hl, List.length_append] at h1
      omega
    clear hB ho hl
    by_cases h0 : u = 0
    · subst h0
      have hfin := hid (show l = listN v by rw [← HLv.out, list_zero, List.append_nil])
      go_wp2_with fail
      go_ret
      exact ⟨A, c, by rw [← hfin.out]; rfl, by rw [← hfin.out]; exact HO.out, HB.out, hd⟩
    · have h0i : ¬ ((u : Int) = 0) := by omega
      have htz := hid (HT.out u h0 hu wr (HE.out.below HB.out HP.out))
      have hst := hid (HL.out u h0 hu)
      generalize Lib.ctz 64 u = k at *
      have hand := bits_and_u64_nat u (u - 1) (by simpa using hu) (by simp at hu; omega)
      have hsub : IntKind.u64.wrap ((u : Int) - 1) = ((u - 1 : Nat) : Int) := by rw [IntKind.wrap_u64]; simp at hu; omega
      have hlt := hid (and_pred_lt h0)
      have hu2 : u &&& (u - 1) < 2 ^ 64 := Nat.lt_trans hlt.out hu
      have hX := hid (Blk.new wr 3 #[.int .i64 (k : Nat)])
      have hcell := hX.out.cell 0
      simp only [List.getElem?_toArray, List.getElem?_cons_zero] at hcell
      have hcl := hid hcell
      have hbase := hid (HB.out.size)
      clear hcell
      go_wp2_with (first | (go_at_call 51; refine htz.out.mono ?_; rintro e w9 ⟨rfl, rfl⟩) | (at_builtin; refine wp_appK _ rfl (.tmp 10) (.tmp 13) rfl w.heap.size (.slice A l.length c) l rfl (HO.out.alloc _) _ 1 (k : Nat) rfl hcl.out (by omega) (by have := hbase.out; simp; omega) ?_; intro A9 c9 w9 ho9 hg9 hd9))
      have B9 := hid (show Below w.heap.size w w9 from (HB.out.alloc HB.out.size _).grown hg9 (by have := hbase.out; simp; omega) (fun g hg => (HO.out.lt g hg).1))
      have HO9 := hid ho9
      have HD9 := hid (show w.drawn ≤ w9.drawn from Nat.le_trans hd hd9)
      clear ho9 hg9 hd9
      go_wp2_with fail
      go_roundw
      case rel => exact ⟨u &&& (u - 1), l ++ [(k : Int)], A9, c9, by simp [hsub, hand], hu2, by simp, by rw [List.append_assoc, ← HLv.out, hst.out]; rfl, by simpa using HO9.out, B9.out, HD9.out⟩
      case measure => have := hlt.out; simp [intOf, hsub, hand]; omega
end Go.Proofs.YtbbogflibekgfaaDoor
