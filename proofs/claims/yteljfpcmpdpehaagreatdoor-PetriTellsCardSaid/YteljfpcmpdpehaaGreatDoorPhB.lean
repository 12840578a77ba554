
/- Petri: the laws' weights. -/
import Derived.Test.YteljfpcmpdpehaaGreatDoorPhA
import Derived.Shelf.Spec.TrailingZeros
import Derived.Deep.AppendLies
import Derived.Deep.AppendSrc
import Derived.Test.YteljfpcmpdpehaaGreatDoorRegS
set_option linter.unusedSimpArgs false
set_option linter.unusedVariables false
namespace Go.Proofs.YteljfpcmpdpehaaGreatDoor
open Go.RowKit Go.IntWalk Go.Shelf

/-- The table behind bits.TrailingZeros64 lies as its initialiser lays it. -/
def PEnv (w : World) : Prop := TabAt 0 Lib.deBruijn64tab w
set_option maxRecDepth 100000 in
set_option maxHeartbeats 1000000 in
theorem tz_core (x k idx : Nat) (w : World) (hx0 : ((x : Int) == 0) = false)
    (key : IntKind.u64.wrap (bits BinOp.and IntKind.u64 (x : Int) (IntKind.u64.wrap (-(x : Int))) * 285870213051353865) / 288230376151711744 = (idx : Int))
    (hi : idx < 64) (hk : k < 64) (hcell : w.cell? ⟨0, idx, none⟩ = some (.int .u8 k)) :
    Calls Tryz.prog 89 #[.int .u64 x] w fun e w' => e = .returned (.int .i64 k) ∧ w' = w := by
  go_enter Tryz.func89, Tryz.ntmps89
  go_wp2_with (simp only [key])
  go_ret
  exact ⟨rfl, rfl⟩
theorem tz_any (x : Nat) (hx : x < 18446744073709551616) (hx0 : x ≠ 0) (w : World) (hT : PEnv w) :
    Calls Tryz.prog 89 #[.int .u64 x] w fun e w' => e = .returned (.int .i64 (Lib.ctz 64 x)) ∧ w' = w := by
  obtain ⟨hlow, hk⟩ := Lib.lowest_bit 64 x hx0 hx
  obtain ⟨hi, htab⟩ := Lib.deBruijn64_at _ hk
  have hcell := hT _ hi
  rw [htab] at hcell
  exact tz_core x _ _ w (by simp; omega) (tz64_key x _ hx hx0 hlow) hi hk hcell
/-- append of one number whose cell is known: what the builtin does. -/
theorem run_appJ (W : World) (ty : TypeId) (base : Nat) (v : Value) (l : List Int) (hown : OwnI W base v l) (B c : Nat) (y : Int) (hb : W.cell? ⟨B, 0, none⟩ = some (.int .i64 y)) (hlen : l.length ≤ 10000000) (hbase : base ≤ W.heap.size) :
    ∃ g cap w', (Builtin.append_ #[25, 25] ty #[v, .slice (some ⟨B, 0, none⟩) 1 c]).run Tryz.prog W = .ok (.slice (some ⟨g, 0, none⟩) (l.length + 1) cap) w' ∧
      OwnI w' base (.slice (some ⟨g, 0, none⟩) (l.length + 1) cap) (l ++ [y]) ∧ W.grownBy w' v.ownBlock ∧ ((Value.slice (some ⟨g, 0, none⟩) (l.length + 1) cap).ownBlock = v.ownBlock ∨ (Value.slice (some ⟨g, 0, none⟩) (l.length + 1) cap).ownBlock = some W.heap.size) := by
  obtain ⟨i0, hi, hz0, hz1, hz2⟩ := info_parts infoInt
  obtain ⟨g, cap, w', h1, h2, h3, h4, _⟩ := Go.run_append_lies (P := Tryz.prog) W 25 ty base 3 i0 _ 1 8 Tryz.underlying25 hi hz0 hz1 hz2 rfl (by omega) v l.length _ hown ⟨B, 0, none⟩ 1 c [.int .i64 y] rfl
    (fun j u hu => by
      match j, hu with
      | 0, hu => simp only [List.getElem?_cons_zero, Option.some.injEq] at hu; subst hu; exact hb
      | j + 1, hu => simp at hu) (by simp [Value.oneCell']) (by omega) (by unfold maxLen; omega) (by omega) hbase _ rfl
  refine ⟨g, cap, w', h1, ?_, h3, ?_⟩
  · unfold OwnI
    rw [List.length_append, List.map_append]
    exact h2
  · rcases h4 with h4 | h4
    · exact .inl h4.symm
    · exact .inr (by rw [h4]; rfl)

open Go in
/-- append draws from the tape forward. -/
theorem app_drawn {P : Program} (w : World) (base : Nat) (t ty e : TypeId) (i : TypeInfo) (z : Value) (size bytes : Nat) (ht : P.underlying t = some (.slice e)) (hi : P.info? e = some i) (hz : i.zero = some z)
    (hsize : i.size = size) (hby : i.bytes = bytes)
    (v : Value) (n : Nat) (xs : List Value) (hown : w.ownsRow base e size v n xs)
    (a : Addr) (m c : Nat) (news : List Value) (hl : news.length = m * size) (hnews : ∀ j u, news[j]? = some u → w.cell? (a.add j) = some u) (h1 : ∀ u ∈ news, u.oneCell' = true)
    (h63 : n + m ≤ maxLen) (hbytes : (n + m) * bytes ≤ 140737488355328) (hm0 : 0 < m) {u : Value} {w' : World}
    (hr : (Builtin.append_ #[t, t] ty #[v, .slice (some a) m c]).run P w = .ok u w') : w.drawn ≤ w'.drawn := by
  subst hsize
  subst hby
  have hsmall : n + m ≤ 9223372036854775807 := by simp only [maxLen] at h63; omega
  rcases hown.2 with ⟨rfl, rfl⟩ | ⟨g, cap, cur, rfl, hbg, hg, hnc, hcm, hcs, htake⟩
  · have hr2 := run_append_nil (P := P) w t ty e i z ht hi hz a m c news hl hnews (by omega) (by omega) (by have hb := hbytes; simp only [Nat.zero_add] at hb; omega)
    rw [hr2] at hr
    injection hr with _ hr
    rw [← hr]
    exact Nat.le_succ _
  · by_cases hroom : n + m ≤ cap
    · have hfit : n * i.size + news.length ≤ cur.size := by rw [hl, hcs, ← Nat.add_mul]; exact Nat.mul_le_mul_right _ hroom
      have hr2 := run_append_room (P := P) w t ty e i ht hi g n cap cur hg a m c news hl hnews h1 hroom hfit
      rw [hr2] at hr
      injection hr with _ hr
      rw [← hr]
      exact Nat.le_refl _
    · have holds : ∀ j u, xs[j]? = some u → w.cell? ((⟨g, 0, none⟩ : Addr).add j) = some u := hown.cells (g := g) rfl
      have hr2 := run_append_grow (P := P) w t ty e i z ht hi hz ⟨g, 0, none⟩ n cap xs hown.1 holds a m c news hl hnews (by omega) (by omega) (growslice_fits (by omega) hbytes)
      rw [hr2] at hr
      injection hr with _ hr
      rw [← hr]
      exact Nat.le_succ _
theorem wp_appK {ops : Array Oper} {rest : List Oper} {o : Oper} {a : Act} {Q : Exit → Act → World → Prop} (w : World) (hgd : o.guard = none) (s x : Operand) (ho : o.op = .call { callee := .builtin .append, args := #[s, x], argTypes := #[25, 25] })
    (base : Nat) (v : Value) (l : List Int) (hs : a.eval s = v) (hown : OwnI w base v l) (B c : Nat) (y : Int) (hx : a.eval x = .slice (some ⟨B, 0, none⟩) 1 c) (hb : w.cell? ⟨B, 0, none⟩ = some (.int .i64 y)) (hlen : l.length ≤ 10000000) (hbase : base ≤ w.heap.size)
    (h : ∀ A cap w', OwnI w' base (.slice A (l.length + 1) cap) (l ++ [y]) → w.grownBy w' v.ownBlock → w.drawn ≤ w'.drawn → wpList Tryz.prog ops Q rest (a.put o.dst (.slice A (l.length + 1) cap)) w') : wpList Tryz.prog ops Q (o :: rest) a w := by
  obtain ⟨i0, hi, hz0, hz1, hz2⟩ := info_parts infoInt
  obtain ⟨g, cap, w', hr, h2, h3, h4⟩ := run_appJ w o.type base v l hown B c y hb hlen hbase
  have hd := app_drawn (P := Tryz.prog) w base 25 o.type 3 i0 _ 1 8 Tryz.underlying25 hi hz0 hz1 hz2 v l.length _ hown ⟨B, 0, none⟩ 1 c [.int .i64 y] rfl
    (fun j u hu => by
      match j, hu with
      | 0, hu => simp only [List.getElem?_cons_zero, Option.some.injEq] at hu; subst hu; exact hb
      | j + 1, hu => simp at hu) (by simp [Value.oneCell']) (by unfold maxLen; omega) (by omega) (by omega) hr
  refine wpList_plain hgd fun K hK => ?_
  unfold Oper.wp execOp
  simp only [ho, resolve, invoke, builtin, Sem.run_bind, Sem.run_pure, Result.andThen_ok, List.map_toArray, List.map_cons, List.map_nil, hs, hx, hr]
  exact hK _ _ (h (some ⟨g, 0, none⟩) cap w' h2 h3 hd)
theorem PEnv.below {w w' : World} (h : PEnv w) (hb : Below w.heap.size w w') (hz : 0 < w.heap.size) : PEnv w' := fun j hj => by rw [bcell hb 0 j hz]; exact h j hj
theorem PEnv.pos {w : World} (h : PEnv w) : 0 < w.heap.size := by
  have := h 0 (by decide)
  exact (cell_lt this).1
theorem listN_len (v : Nat) : (listN v).length ≤ 64 := by
  unfold listN
  rw [List.length_map]
  exact Nat.le_trans (List.length_filter_le _ _) (by simp)
theorem listN_i64 (v : Nat) : ∀ x ∈ listN v, I64 x := fun x hx => by
  have := list_mem.1 hx
  unfold I64
  omega
set_option maxRecDepth 100000 in
set_option maxHeartbeats 2000000 in
theorem list_any (v : Nat) (w : World) (hv : v < 2 ^ 64) (hE : PEnv w) :
    Calls Tryz.prog 58 #[.int .u64 (v : Nat)] w fun e w' => ∃ A c, e = .returned (.slice A (listN v).length c) ∧ OwnI w' w.heap.size (.slice A (listN v).length c) (listN v) ∧ Below w.heap.size w w' ∧ w.drawn ≤ w'.drawn := by
  have HL := hid (fun u (h : u ≠ 0) (h2 : u < 2 ^ 64) => list_step h h2)
  have HT := hid (fun u (h : u ≠ 0) (h2 : u < 2 ^ 64) (W : World) (hE2 : PEnv W) => tz_any u (by simpa using h2) h W hE2)
  have HP := hid hE.pos
  have HE := hid hE
  have hlen := hid (listN_len v)
  clear hE
  go_enter Tryz.func58, Tryz.ntmps58
  go_wp2_with fail
  go_loopw [0, 3] (fun x s wr => ∃ (u : Nat) (l : List Int) (A : Option Addr) (c : Nat), x = .int .u64 (u : Nat) ∧ u < 2 ^ 64 ∧ s = .slice A l.length c ∧ l ++ listN u = listN v ∧ OwnI wr w.heap.size (.slice A l.length c) l ∧ Below w.heap.size w wr ∧ w.drawn ≤ wr.drawn) (fun x _ _ => (intOf x).toNat)
  case atStart => exact ⟨v, [], none, 0, rfl, hv, rfl, by simp, OwnI.nil _ _, Below.refl _ _, Nat.le_refl _⟩
  case round =>
    obtain ⟨u, l, A, c, rfl, hu, rfl, hl, ho, hB, hd⟩ := hrel
    have HB := hid hB
    have HO := hid ho
    have HLv := hid hl
    have hl64 : l.length ≤ 64 := by
      have h1 := hlen.out
      rw [← hl, List.length_append] at h1
      omega
    clear hB ho hl
    by_cases h0 : u = 0
    · subst h0
      have hfin := hid (show l = listN v by rw [← HLv.out, list_zero, List.append_nil])
      go_wp2_with fail
      go_ret
      exact ⟨A, c, by rw [← hfin.out]; rfl, by rw [← hfin.out]; exact HO.out, HB.out, hd⟩
    · have h0i : ¬ ((u : Int) = 0) := by omega
      have htz := hid (HT.out u h0 hu wr (HE.out.below HB.out HP.out))
      have hst := hid (HL.out u h0 hu)
      generalize Lib.ctz 64 u = k at *
      have hand := bits_and_u64_nat u (u - 1) (by simpa using hu) (by simp at hu; omega)
      have hsub : IntKind.u64.wrap ((u : Int) - 1) = ((u - 1 : Nat) : Int) := by rw [IntKind.wrap_u64]; simp at hu; omega
      have hlt := hid (and_pred_lt h0)
      have hu2 : u &&& (u - 1) < 2 ^ 64 := Nat.lt_trans hlt.out hu
      have hX := hid (Blk.new wr 3 #[.int .i64 (k : Nat)])
      have hcell := hX.out.cell 0
      simp only [List.getElem?_toArray, List.getElem?_cons_zero] at hcell
      have hcl := hid hcell
      have hbase := hid (HB.out.size)
      clear hcell
      go_wp2_with (first | (go_at_call 89; refine htz.out.mono ?_; rintro e w9 ⟨rfl, rfl⟩) | (at_builtin; refine wp_appK _ rfl (.tmp 10) (.tmp 13) rfl w.heap.size (.slice A l.length c) l rfl (HO.out.alloc _) _ 1 (k : Nat) rfl hcl.out (by omega) (by have := hbase.out; simp; omega) ?_; intro A9 c9 w9 ho9 hg9 hd9))
      have B9 := hid (show Below w.heap.size w w9 from (HB.out.alloc HB.out.size _).grown hg9 (by have := hbase.out; simp; omega) (fun g hg => (HO.out.lt g hg).1))
      have HO9 := hid ho9
      have HD9 := hid (show w.drawn ≤ w9.drawn from Nat.le_trans hd hd9)
      clear ho9 hg9 hd9
      go_wp2_with fail
      go_roundw
      case rel => exact ⟨u &&& (u - 1), l ++ [(k : Int)], A9, c9, by simp [hsub, hand], hu2, by simp, by rw [List.append_assoc, ← HLv.out, hst.out]; rfl, by simpa using HO9.out, B9.out, HD9.out⟩
      case measure => have := hlt.out; simp [intOf, hsub, hand]; omega
end Go.Proofs.YteljfpcmpdpehaaGreatDoor
namespace Go.Proofs.YteljfpcmpdpehaaGreatDoor
open Go.RowKit Go.IntWalk Go.Shelf

def edgeN (trap : Bool) (t : Tr) : Ed := if trap then (wordN t.1, wordN t.2) else (wordN t.2, wordN t.1)
theorem edgesN_take (n : Int) (T : List Tr) (trap : Bool) (k : Nat) (hk : k < T.length) : edgesN (n, T.take (k + 1)) trap = edgesN (n, T.take k) trap ++ [edgeN trap T[k]] := by
  unfold edgesN edgeN
  rw [List.take_add_one, List.getElem?_eq_getElem hk, List.map_append]
  rfl
theorem word64 {n : Int} {s : List Int} (hn : n ≤ 64) (h : setB n s = true) : wordN s < 2 ^ 64 := word_lt (fun p hp => by have := setB_mem h p hp; omega)
theorem edges_ok {n : Int} {T : List Tr} (hok : netOK (n, T) = true) (trap : Bool) : ∀ e ∈ edgesN (n, T) trap, e.1 < 2 ^ 64 ∧ e.2 < 2 ^ 64 := by
  intro e he
  obtain ⟨t, ht, rfl⟩ := List.mem_map.1 he
  simp only [netOK, Bool.and_eq_true, decide_eq_true_eq, List.all_eq_true] at hok
  have h1 := hok.2 t ht
  cases trap
  · exact ⟨word64 hok.1.1.2 h1.2, word64 hok.1.1.2 h1.1⟩
  · exact ⟨word64 hok.1.1.2 h1.1, word64 hok.1.1.2 h1.2⟩
set_option maxRecDepth 100000 in
set_option maxHeartbeats 4000000 in
theorem edges_any (n : Int) (A : Option Addr) (c : Nat) (T : List Tr) (trap : Bool) (w : World) (hl : T.length ≤ maxLen) (h : SlR w w.heap.size A T) (hok : netOK (n, T) = true) :
    Calls Tryz.prog 55 #[.agg #[.int .i64 n, .slice A T.length c], .bool trap] w fun e w' => ∃ v, e = .returned v ∧ edRK.Own w' w.heap.size v (edgesN (n, T) trap) ∧ Below w.heap.size w w' := by
  obtain ⟨w1, hw1⟩ : ∃ w1, w1 = (w.alloc (Obj.cells #[.int .i64 n, .slice A T.length c] 24)) := ⟨_, rfl⟩
  have s1 : w1.heap.size = w.heap.size + 1 := by rw [hw1]; simp
  have B1 : Below w.heap.size w w1 := by rw [hw1]; (repeat (first | exact Below.refl _ _ | assumption | refine below_drewN ?_ _ | refine Below.drew ?_ | refine Below.alloc ?_ (by (try simp); (try omega)) _ | refine Below.setCell ?_ (by (try simp); (try omega)) _))
  have x1 : Blk w1 w.heap.size 24 #[.int .i64 n, .slice A T.length c] := by rw [hw1]; exact Blk.new w _ _
  have y1 := x1.cell 1; have z1 := x1.lt
  simp at y1
  have HB1 := hid B1
  have HOK := hid hok
  have h5000 : T.length ≤ 5000 := by
    simp only [netOK, Bool.and_eq_true, decide_eq_true_eq] at hok
    exact hok.1.2
  clear x1 hok
  go_enter Tryz.func55, Tryz.ntmps55
  go_upto_region 1 with fail
  rw [← hw1]
  clear hw1
  go_upto_region 3 with fail
  go_loopw [5, 12] (fun v i wr => ∃ k : Nat, k ≤ T.length ∧ i = .int .i64 k ∧ edRK.Own wr w.heap.size v (edgesN (n, T.take k) trap) ∧ Below w.heap.size w wr) (fun _ i _ => T.length - (intOf i).toNat)
  case atStart => exact ⟨0, by omega, rfl, RK.Own.nil, HB1.out⟩
  case round =>
    obtain ⟨k, hk, rfl, ho, hB⟩ := hrel
    have HO := hid ho
    have HB := hid hB
    clear ho
    by_cases hlt : k < T.length
    · have hlt' : (k : Int) < T.length := by omega
      obtain ⟨b, off, A1, c1, A2, c2, rfl, hb, g0, g1, hs1, hs2, hl1, hl2⟩ := h.tr hlt
      replace g0 := (bcell hB b _ hb).trans g0
      replace g1 := (bcell hB b _ hb).trans g1
      have hz : b < wr.heap.size := by have := hB.size; omega
      have hst := hid (edgesN_take n T trap k hlt)
      have hsets : (setB n T[k].1 = true ∧ setB n T[k].2 = true) ∧ n ≤ 64 := by
        have := HOK.out
        simp only [netOK, Bool.and_eq_true, decide_eq_true_eq, List.all_eq_true] at this
        exact ⟨this.2 _ (List.getElem_mem hlt), this.1.1.2⟩
      have hr1 : ∀ x ∈ T[k].1, 0 ≤ x ∧ x < 64 := fun x hx => by have := setB_mem hsets.1.1 x hx; omega
      have hr2 : ∀ x ∈ T[k].2, 0 ≤ x ∧ x < 64 := fun x hx => by have := setB_mem hsets.1.2 x hx; omega
      have HW1 := hid (fun W (hW : Below w.heap.size w W) => word_any A1 c1 T[k].1 W hl1 ((hs1.below hW).more hW.size) hr1)
      have HW2 := hid (fun W (hW : Below w.heap.size w W) => word_any A2 c2 T[k].2 W hl2 ((hs2.below hW).more hW.size) hr2)
      have hw64 := hid (And.intro (word64 hsets.2 hsets.1.1) (word64 hsets.2 hsets.1.2))
      clear hs1 hs2 hr1 hr2 hsets hB
      generalize T[k] = t at *
      obtain ⟨I, O⟩ := t
      simp only at *
      have hed := hid (show edgeN trap (I, O) = if trap then (wordN I, wordN O) else (wordN O, wordN I) from rfl)
      generalize wordN I = wi at *
      generalize wordN O = wo at *
      have hX := hid (Blk.new wr 47 #[.slice A1 I.length c1, .slice A2 O.length c2])
      go_upto_region 5 with fail
      have HB5 := hid (show Below w.heap.size w (wr.alloc (Obj.cells #[.slice A1 I.length c1, .slice A2 O.length c2] 47)) from HB.out.alloc HB.out.size _)
      have HO5 := hid (HO.out.alloc (Obj.cells #[.slice A1 I.length c1, .slice A2 O.length c2] 47))
      have xT0 := hX.out.cell 0; have xT1 := hX.out.cell 1; have zT := hX.out.lt
      simp only [List.getElem?_toArray, List.getElem?_cons_zero, List.getElem?_cons_succ] at xT0 xT1
      clear g0 g1 hX HO HB
      generalize wr.heap.size = gT at *
      generalize (wr.alloc (Obj.cells #[.slice A1 I.length c1, .slice A2 O.length c2] 47)) = w5 at *
      have HSF := hid (fun (wq : World) (hq : Below w5.heap.size w5 wq) => And.intro ((bcell hq _ _ zT).trans xT0) ((bcell hq _ _ zT).trans xT1))
      have HWI := hid (fun W (hW : Below w5.heap.size w5 W) => HW1.out W (HB5.out.trans (hW.mono HB5.out.size)))
      have HWO := hid (fun W (hW : Below w5.heap.size w5 W) => HW2.out W (HB5.out.trans (hW.mono HB5.out.size)))
      have BD := hid ((Below.refl w5.heap.size w5).drew)
      have HOD := hid HO5.out.drew
      clear HW1 HW2 xT0 xT1
      refine wpIn_wide.1 (wpIn_region_S (n := 0) (fun wq => Below w5.heap.size w5 wq) [] (by kernel_rfl) BD.out (fun hHeld => ?_))
      generalize w5.drew = wd at *
      refine wpAnyS_pure 0 (v := ?_) (fun _ => trivial) (by simp only [List.getElem?_toArray, List.getElem?_cons_succ, List.getElem?_cons_zero]; rfl) (by kernel_rfl) (fun _ _ _ _ _ h => h) ⟨rfl, (by intro c h; cases h), ?_⟩ hHeld ?_
      rotate_left
      focus (intro wS hSw; (try replace hSw := HSF.out wS hSw); (try dsimp only at hSw); go_simp; (try with_reducible rfl))
      (try simp only [Act.put, List.setIfInBounds_toArray, List.set_cons_zero, List.set_cons_succ])
      refine wpAnyS_take 1 (v := ?_) (fun _ => trivial) (by simp only [List.getElem?_toArray, List.getElem?_cons_succ, List.getElem?_cons_zero]; rfl) (by kernel_rfl) (fun _ _ _ _ _ h => h) ⟨rfl, (by intro c h; cases h), ?_⟩ hHeld ?_
      rotate_left
      focus (intro wS hSw; (try replace hSw := HSF.out wS hSw); (try dsimp only at hSw); go_simp; (try with_reducible rfl))
      (try simp only [Act.put, List.setIfInBounds_toArray, List.set_cons_zero, List.set_cons_succ])
      refine wpAnyS_pure 3 (v := ?_) (fun _ => trivial) (by simp only [List.getElem?_toArray, List.getElem?_cons_succ, List.getElem?_cons_zero]; rfl) (by kernel_rfl) (fun _ _ _ _ _ h => h) ⟨rfl, (by intro c h; cases h), ?_⟩ hHeld ?_
      rotate_left
      focus (intro wS hSw; (try replace hSw := HSF.out wS hSw); (try dsimp only at hSw); go_simp; (try with_reducible rfl))
      (try simp only [Act.put, List.setIfInBounds_toArray, List.set_cons_zero, List.set_cons_succ])
      refine wpAnyS_take 4 (v := ?_) (fun _ => trivial) (by simp only [List.getElem?_toArray, List.getElem?_cons_succ, List.getElem?_cons_zero]; rfl) (by kernel_rfl) (fun _ _ _ _ _ h => h) ⟨rfl, (by intro c h; cases h), ?_⟩ hHeld ?_
      rotate_left
      focus (intro wS hSw; (try replace hSw := HSF.out wS hSw); (try dsimp only at hSw); go_simp; (try with_reducible rfl))
      (try simp only [Act.put, List.setIfInBounds_toArray, List.set_cons_zero, List.set_cons_succ])
      refine wpAnyS_ready [2, 7] (by kernel_rfl) (by simp) (AllReadyS.cons (by simp only [List.getElem?_toArray, List.getElem?_cons_succ, List.getElem?_cons_zero]; rfl) rfl (fun K hK => ?_) (AllReadyS.cons (by simp only [List.getElem?_toArray, List.getElem?_cons_succ, List.getElem?_cons_zero]; rfl) rfl (fun K hK => ?_) AllReadyS.nil))
      · --2
        refine callS (R := fun w' => w' = _) (by intro c h; cases h) (by go_simp; try with_reducible rfl) ((HWO.out _ BD.out).mono (fun e w' ⟨he, hw⟩ => ⟨he, hw.symm⟩)) ?_
        intro w9 hw9
        rw [hw9]
        clear hw9 w9
        refine hK.out _ _ BD.out ?_
        (try simp only [Act.put, List.setIfInBounds_toArray, List.set_cons_zero, List.set_cons_succ])
        clear hK K
        refine wpAnyS_ready [5, 7] (by kernel_rfl) (by simp) (AllReadyS.cons (by simp only [List.getElem?_toArray, List.getElem?_cons_succ, List.getElem?_cons_zero]; rfl) rfl (fun K hK => ?_) (AllReadyS.cons (by simp only [List.getElem?_toArray, List.getElem?_cons_succ, List.getElem?_cons_zero]; rfl) rfl (fun K hK => ?_) AllReadyS.nil))
        · --2 5 7
          refine callS (R := fun w' => w' = _) (by intro c h; cases h) (by go_simp; try with_reducible rfl) ((HWI.out _ BD.out).mono (fun e w' ⟨he, hw⟩ => ⟨he, hw.symm⟩)) ?_
          intro w9 hw9
          rw [hw9]
          clear hw9 w9
          refine hK.out _ _ BD.out ?_
          (try simp only [Act.put, List.setIfInBounds_toArray, List.set_cons_zero, List.set_cons_succ])
          clear hK K
          refine wpAnyS_pure 6 (v := ?_) (fun _ => trivial) (by simp only [List.getElem?_toArray, List.getElem?_cons_succ, List.getElem?_cons_zero]; rfl) (by kernel_rfl) (fun _ _ _ _ _ h => h) ⟨rfl, (by intro c h; cases h), ?_⟩ hHeld ?_
          rotate_left
          focus (intro wS hSw; (try replace hSw := HSF.out wS hSw); (try dsimp only at hSw); go_simp; (try with_reducible rfl))
          (try simp only [Act.put, List.setIfInBounds_toArray, List.set_cons_zero, List.set_cons_succ])
          refine wpAnyS_ready [7] (by kernel_rfl) (by simp) (AllReadyS.cons (by simp only [List.getElem?_toArray, List.getElem?_cons_succ, List.getElem?_cons_zero]; rfl) rfl (fun K hK => ?_) AllReadyS.nil)
          go_simp
          have BE := hid (BD.out.alloc BD.out.size (Obj.cells #[.int .u64 0, .int .u64 0] 65))
          have XE := hid (Blk.new wd 65 #[.int .u64 0, .int .u64 0])
          refine hK.out _ _ BE.out ?_
          clear hK K
          (try simp only [Act.put, List.setIfInBounds_toArray, List.set_cons_zero, List.set_cons_succ])
          clear hHeld
          have hHeld := BE.out
          have hge := hid BD.out.size
          have HOE := hid (HOD.out.alloc (Obj.cells #[.int .u64 0, .int .u64 0] 65))
          generalize wd.heap.size = gE at *
          generalize (wd.alloc (Obj.cells #[.int .u64 0, .int .u64 0] 65)) = wE at *
          refine wpAnyS_ready [8] (by kernel_rfl) (by simp) (AllReadyS.cons (by simp only [List.getElem?_toArray, List.getElem?_cons_succ, List.getElem?_cons_zero]; rfl) rfl (fun K hK => ?_) AllReadyS.nil)
          have zE := XE.out.lt
          have cE0 := XE.out.cell 0
          have cE1 := XE.out.cell 1
          have fE := XE.out.frozen
          simp at cE0 cE1
          go_simp
          have HWF := hid ((BE.out.setCell (p := ⟨gE, 0, none⟩) hge.out (.int .u64 (wo : Nat))).setCell (p := ⟨gE, 1, none⟩) hge.out (.int .u64 (wi : Nat)))
          have XF := hid (show Blk ((wE.setCell ⟨gE, 0, none⟩ (.int .u64 (wo : Nat))).setCell ⟨gE, 1, none⟩ (.int .u64 (wi : Nat))) gE 65 #[.int .u64 (wo : Nat), .int .u64 (wi : Nat)] by
            have := (XE.out.set_ 0 (.int .u64 (wo : Nat))).set_ 1 (.int .u64 (wi : Nat))
            simpa using this)
          refine hK.out _ _ HWF.out ?_
          clear hK K hHeld cE0 cE1 fE zE XE HOE BE HSF
          refine wpAnyS_done (by kernel_rfl) ?_
          generalize ((wE.setCell ⟨gE, 0, none⟩ (.int .u64 (wo : Nat))).setCell ⟨gE, 1, none⟩ (.int .u64 (wi : Nat))) = wG at *
          cases trap with
          | false =>
            have XG := hid XF.out
            have HBG := hid HWF.out
            clear XF HWF
            go_upto_region 8 with fail
            have cG0 := XG.out.cell 0; have cG1 := XG.out.cell 1; have zG := XG.out.lt
            simp at cG0 cG1
            have HOG := hid (HO5.out.below HBG.out)
            have SG := hid (edRK.blk (l := [(wo, wi)]) (Blk.new wG 65 #[.int .u64 (wo : Nat), .int .u64 (wi : Nat)]) (by intro e he; simp only [List.mem_singleton] at he; subst he; exact ⟨by first | exact hw64.out.1 | exact hw64.out.2, by first | exact hw64.out.2 | exact hw64.out.1⟩))
            have hl9 := hid (show (edgesN (n, T.take k) false).length + ([(wo, wi)] : List Ed).length ≤ 100000000 by unfold edgesN; rw [List.length_map, List.length_take, List.length_singleton]; omega)
            have hb9 := hid (show w.heap.size ≤ (wG.alloc (Obj.cells #[.int .u64 (wo : Nat), .int .u64 (wi : Nat)] 65)).heap.size by have h1 := HB5.out.size; have h2 := HBG.out.size; simp; omega)
            go_upto_region 9 with (at_builtin; refine edRK.appL _ rfl (.tmp 29) (.tmp 31) rfl rfl (HOG.out.alloc _) (ys := [(wo, wi)]) (c := 1) rfl SG.out hl9.out hb9.out ?_; intro A9 c9 w9 ho9 hg9)
            have HO9 := hid ho9
            have hg9' := hid hg9
            clear ho9 hg9
            have HB9 := hid (show Below w.heap.size w w9 from ((HB5.out.trans (HBG.out.mono HB5.out.size)).alloc (by have h1 := HB5.out.size; have h2 := HBG.out.size; omega) _).grown hg9'.out hb9.out (fun g hg => (own_blk HO5.out g hg).1))
            go_wp2_with fail
            go_roundw
            case rel => exact ⟨k + 1, by omega, by go_num, by rw [hst.out, hed.out]; simpa using HO9.out, HB9.out⟩
            case measure => simp [intOf]; omega
          | true =>
            have cF0 := XF.out.cell 0; have cF1 := XF.out.cell 1; have zF := XF.out.lt; have fF := XF.out.frozen
            simp at cF0 cF1
            go_upto_region 8 with fail
            have HBG := hid ((HWF.out.setCell (p := ⟨gE, 0, none⟩) hge.out (.int .u64 (wi : Nat))).setCell (p := ⟨gE, 1, none⟩) hge.out (.int .u64 (wo : Nat)))
            have XG := hid (show Blk ((wG.setCell ⟨gE, 0, none⟩ (.int .u64 (wi : Nat))).setCell ⟨gE, 1, none⟩ (.int .u64 (wo : Nat))) gE 65 #[.int .u64 (wi : Nat), .int .u64 (wo : Nat)] by
              have := (XF.out.set_ 0 (.int .u64 (wi : Nat))).set_ 1 (.int .u64 (wo : Nat))
              simpa using this)
            clear XF HWF cF0 cF1 zF fF
            generalize ((wG.setCell ⟨gE, 0, none⟩ (.int .u64 (wi : Nat))).setCell ⟨gE, 1, none⟩ (.int .u64 (wo : Nat))) = wG at *
            have cG0 := XG.out.cell 0; have cG1 := XG.out.cell 1; have zG := XG.out.lt
            simp at cG0 cG1
            have HOG := hid (HO5.out.below HBG.out)
            have SG := hid (edRK.blk (l := [(wi, wo)]) (Blk.new wG 65 #[.int .u64 (wi : Nat), .int .u64 (wo : Nat)]) (by intro e he; simp only [List.mem_singleton] at he; subst he; exact ⟨by first | exact hw64.out.1 | exact hw64.out.2, by first | exact hw64.out.2 | exact hw64.out.1⟩))
            have hl9 := hid (show (edgesN (n, T.take k) true).length + ([(wi, wo)] : List Ed).length ≤ 100000000 by unfold edgesN; rw [List.length_map, List.length_take, List.length_singleton]; omega)
            have hb9 := hid (show w.heap.size ≤ (wG.alloc (Obj.cells #[.int .u64 (wi : Nat), .int .u64 (wo : Nat)] 65)).heap.size by have h1 := HB5.out.size; have h2 := HBG.out.size; simp; omega)
            go_upto_region 9 with (at_builtin; refine edRK.appL _ rfl (.tmp 29) (.tmp 31) rfl rfl (HOG.out.alloc _) (ys := [(wi, wo)]) (c := 1) rfl SG.out hl9.out hb9.out ?_; intro A9 c9 w9 ho9 hg9)
            have HO9 := hid ho9
            have hg9' := hid hg9
            clear ho9 hg9
            have HB9 := hid (show Below w.heap.size w w9 from ((HB5.out.trans (HBG.out.mono HB5.out.size)).alloc (by have h1 := HB5.out.size; have h2 := HBG.out.size; omega) _).grown hg9'.out hb9.out (fun g hg => (own_blk HO5.out g hg).1))
            go_wp2_with fail
            go_roundw
            case rel => exact ⟨k + 1, by omega, by go_num, by rw [hst.out, hed.out]; simpa using HO9.out, HB9.out⟩
            case measure => simp [intOf]; omega
        · --2 7 5
          go_simp
          have BE := hid (BD.out.alloc BD.out.size (Obj.cells #[.int .u64 0, .int .u64 0] 65))
          have XE := hid (Blk.new wd 65 #[.int .u64 0, .int .u64 0])
          refine hK.out _ _ BE.out ?_
          clear hK K
          (try simp only [Act.put, List.setIfInBounds_toArray, List.set_cons_zero, List.set_cons_succ])
          clear hHeld
          have hHeld := BE.out
          have hge := hid BD.out.size
          have HOE := hid (HOD.out.alloc (Obj.cells #[.int .u64 0, .int .u64 0] 65))
          generalize wd.heap.size = gE at *
          generalize (wd.alloc (Obj.cells #[.int .u64 0, .int .u64 0] 65)) = wE at *
          refine wpAnyS_ready [5] (by kernel_rfl) (by simp) (AllReadyS.cons (by simp only [List.getElem?_toArray, List.getElem?_cons_succ, List.getElem?_cons_zero]; rfl) rfl (fun K hK => ?_) AllReadyS.nil)
          refine callS (R := fun w' => w' = _) (by intro c h; cases h) (by go_simp; try with_reducible rfl) ((HWI.out _ BE.out).mono (fun e w' ⟨he, hw⟩ => ⟨he, hw.symm⟩)) ?_
          intro w9 hw9
          rw [hw9]
          clear hw9 w9
          refine hK.out _ _ BE.out ?_
          (try simp only [Act.put, List.setIfInBounds_toArray, List.set_cons_zero, List.set_cons_succ])
          clear hK K
          refine wpAnyS_pure 6 (v := ?_) (fun _ => trivial) (by simp only [List.getElem?_toArray, List.getElem?_cons_succ, List.getElem?_cons_zero]; rfl) (by kernel_rfl) (fun _ _ _ _ _ h => h) ⟨rfl, (by intro c h; cases h), ?_⟩ hHeld ?_
          rotate_left
          focus (intro wS hSw; (try replace hSw := HSF.out wS hSw); (try dsimp only at hSw); go_simp; (try with_reducible rfl))
          (try simp only [Act.put, List.setIfInBounds_toArray, List.set_cons_zero, List.set_cons_succ])
          refine wpAnyS_ready [8] (by kernel_rfl) (by simp) (AllReadyS.cons (by simp only [List.getElem?_toArray, List.getElem?_cons_succ, List.getElem?_cons_zero]; rfl) rfl (fun K hK => ?_) AllReadyS.nil)
          have zE := XE.out.lt
          have cE0 := XE.out.cell 0
          have cE1 := XE.out.cell 1
          have fE := XE.out.frozen
          simp at cE0 cE1
          go_simp
          have HWF := hid ((BE.out.setCell (p := ⟨gE, 0, none⟩) hge.out (.int .u64 (wo : Nat))).setCell (p := ⟨gE, 1, none⟩) hge.out (.int .u64 (wi : Nat)))
          have XF := hid (show Blk ((wE.setCell ⟨gE, 0, none⟩ (.int .u64 (wo : Nat))).setCell ⟨gE, 1, none⟩ (.int .u64 (wi : Nat))) gE 65 #[.int .u64 (wo : Nat), .int .u64 (wi : Nat)] by
            have := (XE.out.set_ 0 (.int .u64 (wo : Nat))).set_ 1 (.int .u64 (wi : Nat))
            simpa using this)
          refine hK.out _ _ HWF.out ?_
          clear hK K hHeld cE0 cE1 fE zE XE HOE BE HSF
          refine wpAnyS_done (by kernel_rfl) ?_
          generalize ((wE.setCell ⟨gE, 0, none⟩ (.int .u64 (wo : Nat))).setCell ⟨gE, 1, none⟩ (.int .u64 (wi : Nat))) = wG at *
          cases trap with
          | false =>
            have XG := hid XF.out
            have HBG := hid HWF.out
            clear XF HWF
            go_upto_region 8 with fail
            have cG0 := XG.out.cell 0; have cG1 := XG.out.cell 1; have zG := XG.out.lt
            simp at cG0 cG1
            have HOG := hid (HO5.out.below HBG.out)
            have SG := hid (edRK.blk (l := [(wo, wi)]) (Blk.new wG 65 #[.int .u64 (wo : Nat), .int .u64 (wi : Nat)]) (by intro e he; simp only [List.mem_singleton] at he; subst he; exact ⟨by first | exact hw64.out.1 | exact hw64.out.2, by first | exact hw64.out.2 | exact hw64.out.1⟩))
            have hl9 := hid (show (edgesN (n, T.take k) false).length + ([(wo, wi)] : List Ed).length ≤ 100000000 by unfold edgesN; rw [List.length_map, List.length_take, List.length_singleton]; omega)
            have hb9 := hid (show w.heap.size ≤ (wG.alloc (Obj.cells #[.int .u64 (wo : Nat), .int .u64 (wi : Nat)] 65)).heap.size by have h1 := HB5.out.size; have h2 := HBG.out.size; simp; omega)
            go_upto_region 9 with (at_builtin; refine edRK.appL _ rfl (.tmp 29) (.tmp 31) rfl rfl (HOG.out.alloc _) (ys := [(wo, wi)]) (c := 1) rfl SG.out hl9.out hb9.out ?_; intro A9 c9 w9 ho9 hg9)
            have HO9 := hid ho9
            have hg9' := hid hg9
            clear ho9 hg9
            have HB9 := hid (show Below w.heap.size w w9 from ((HB5.out.trans (HBG.out.mono HB5.out.size)).alloc (by have h1 := HB5.out.size; have h2 := HBG.out.size; omega) _).grown hg9'.out hb9.out (fun g hg => (own_blk HO5.out g hg).1))
            go_wp2_with fail
            go_roundw
            case rel => exact ⟨k + 1, by omega, by go_num, by rw [hst.out, hed.out]; simpa using HO9.out, HB9.out⟩
            case measure => simp [intOf]; omega
          | true =>
            have cF0 := XF.out.cell 0; have cF1 := XF.out.cell 1; have zF := XF.out.lt; have fF := XF.out.frozen
            simp at cF0 cF1
            go_upto_region 8 with fail
            have HBG := hid ((HWF.out.setCell (p := ⟨gE, 0, none⟩) hge.out (.int .u64 (wi : Nat))).setCell (p := ⟨gE, 1, none⟩) hge.out (.int .u64 (wo : Nat)))
            have XG := hid (show Blk ((wG.setCell ⟨gE, 0, none⟩ (.int .u64 (wi : Nat))).setCell ⟨gE, 1, none⟩ (.int .u64 (wo : Nat))) gE 65 #[.int .u64 (wi : Nat), .int .u64 (wo : Nat)] by
              have := (XF.out.set_ 0 (.int .u64 (wi : Nat))).set_ 1 (.int .u64 (wo : Nat))
              simpa using this)
            clear XF HWF cF0 cF1 zF fF
            generalize ((wG.setCell ⟨gE, 0, none⟩ (.int .u64 (wi : Nat))).setCell ⟨gE, 1, none⟩ (.int .u64 (wo : Nat))) = wG at *
            have cG0 := XG.out.cell 0; have cG1 := XG.out.cell 1; have zG := XG.out.lt
            simp at cG0 cG1
            have HOG := hid (HO5.out.below HBG.out)
            have SG := hid (edRK.blk (l := [(wi, wo)]) (Blk.new wG 65 #[.int .u64 (wi : Nat), .int .u64 (wo : Nat)]) (by intro e he; simp only [List.mem_singleton] at he; subst he; exact ⟨by first | exact hw64.out.1 | exact hw64.out.2, by first | exact hw64.out.2 | exact hw64.out.1⟩))
            have hl9 := hid (show (edgesN (n, T.take k) true).length + ([(wi, wo)] : List Ed).length ≤ 100000000 by unfold edgesN; rw [List.length_map, List.length_take, List.length_singleton]; omega)
            have hb9 := hid (show w.heap.size ≤ (wG.alloc (Obj.cells #[.int .u64 (wi : Nat), .int .u64 (wo : Nat)] 65)).heap.size by have h1 := HB5.out.size; have h2 := HBG.out.size; simp; omega)
            go_upto_region 9 with (at_builtin; refine edRK.appL _ rfl (.tmp 29) (.tmp 31) rfl rfl (HOG.out.alloc _) (ys := [(wi, wo)]) (c := 1) rfl SG.out hl9.out hb9.out ?_; intro A9 c9 w9 ho9 hg9)
            have HO9 := hid ho9
            have hg9' := hid hg9
            clear ho9 hg9
            have HB9 := hid (show Below w.heap.size w w9 from ((HB5.out.trans (HBG.out.mono HB5.out.size)).alloc (by have h1 := HB5.out.size; have h2 := HBG.out.size; omega) _).grown hg9'.out hb9.out (fun g hg => (own_blk HO5.out g hg).1))
            go_wp2_with fail
            go_roundw
            case rel => exact ⟨k + 1, by omega, by go_num, by rw [hst.out, hed.out]; simpa using HO9.out, HB9.out⟩
            case measure => simp [intOf]; omega
      · --7 2 5
        go_simp
        have BE := hid (BD.out.alloc BD.out.size (Obj.cells #[.int .u64 0, .int .u64 0] 65))
        have XE := hid (Blk.new wd 65 #[.int .u64 0, .int .u64 0])
        refine hK.out _ _ BE.out ?_
        clear hK K
        (try simp only [Act.put, List.setIfInBounds_toArray, List.set_cons_zero, List.set_cons_succ])
        clear hHeld
        have hHeld := BE.out
        have hge := hid BD.out.size
        have HOE := hid (HOD.out.alloc (Obj.cells #[.int .u64 0, .int .u64 0] 65))
        generalize wd.heap.size = gE at *
        generalize (wd.alloc (Obj.cells #[.int .u64 0, .int .u64 0] 65)) = wE at *
        refine wpAnyS_ready [2] (by kernel_rfl) (by simp) (AllReadyS.cons (by simp only [List.getElem?_toArray, List.getElem?_cons_succ, List.getElem?_cons_zero]; rfl) rfl (fun K hK => ?_) AllReadyS.nil)
        refine callS (R := fun w' => w' = _) (by intro c h; cases h) (by go_simp; try with_reducible rfl) ((HWO.out _ BE.out).mono (fun e w' ⟨he, hw⟩ => ⟨he, hw.symm⟩)) ?_
        intro w9 hw9
        rw [hw9]
        clear hw9 w9
        refine hK.out _ _ BE.out ?_
        (try simp only [Act.put, List.setIfInBounds_toArray, List.set_cons_zero, List.set_cons_succ])
        clear hK K
        refine wpAnyS_ready [5] (by kernel_rfl) (by simp) (AllReadyS.cons (by simp only [List.getElem?_toArray, List.getElem?_cons_succ, List.getElem?_cons_zero]; rfl) rfl (fun K hK => ?_) AllReadyS.nil)
        refine callS (R := fun w' => w' = _) (by intro c h; cases h) (by go_simp; try with_reducible rfl) ((HWI.out _ BE.out).mono (fun e w' ⟨he, hw⟩ => ⟨he, hw.symm⟩)) ?_
        intro w9 hw9
        rw [hw9]
        clear hw9 w9
        refine hK.out _ _ BE.out ?_
        (try simp only [Act.put, List.setIfInBounds_toArray, List.set_cons_zero, List.set_cons_succ])
        clear hK K
        refine wpAnyS_pure 6 (v := ?_) (fun _ => trivial) (by simp only [List.getElem?_toArray, List.getElem?_cons_succ, List.getElem?_cons_zero]; rfl) (by kernel_rfl) (fun _ _ _ _ _ h => h) ⟨rfl, (by intro c h; cases h), ?_⟩ hHeld ?_
        rotate_left
        focus (intro wS hSw; (try replace hSw := HSF.out wS hSw); (try dsimp only at hSw); go_simp; (try with_reducible rfl))
        (try simp only [Act.put, List.setIfInBounds_toArray, List.set_cons_zero, List.set_cons_succ])
        refine wpAnyS_ready [8] (by kernel_rfl) (by simp) (AllReadyS.cons (by simp only [List.getElem?_toArray, List.getElem?_cons_succ, List.getElem?_cons_zero]; rfl) rfl (fun K hK => ?_) AllReadyS.nil)
        have zE := XE.out.lt
        have cE0 := XE.out.cell 0
        have cE1 := XE.out.cell 1
        have fE := XE.out.frozen
        simp at cE0 cE1
        go_simp
        have HWF := hid ((BE.out.setCell (p := ⟨gE, 0, none⟩) hge.out (.int .u64 (wo : Nat))).setCell (p := ⟨gE, 1, none⟩) hge.out (.int .u64 (wi : Nat)))
        have XF := hid (show Blk ((wE.setCell ⟨gE, 0, none⟩ (.int .u64 (wo : Nat))).setCell ⟨gE, 1, none⟩ (.int .u64 (wi : Nat))) gE 65 #[.int .u64 (wo : Nat), .int .u64 (wi : Nat)] by
          have := (XE.out.set_ 0 (.int .u64 (wo : Nat))).set_ 1 (.int .u64 (wi : Nat))
          simpa using this)
        refine hK.out _ _ HWF.out ?_
        clear hK K hHeld cE0 cE1 fE zE XE HOE BE HSF
        refine wpAnyS_done (by kernel_rfl) ?_
        generalize ((wE.setCell ⟨gE, 0, none⟩ (.int .u64 (wo : Nat))).setCell ⟨gE, 1, none⟩ (.int .u64 (wi : Nat))) = wG at *
        cases trap with
        | false =>
          have XG := hid XF.out
          have HBG := hid HWF.out
          clear XF HWF
          go_upto_region 8 with fail
          have cG0 := XG.out.cell 0; have cG1 := XG.out.cell 1; have zG := XG.out.lt
          simp at cG0 cG1
          have HOG := hid (HO5.out.below HBG.out)
          have SG := hid (edRK.blk (l := [(wo, wi)]) (Blk.new wG 65 #[.int .u64 (wo : Nat), .int .u64 (wi : Nat)]) (by intro e he; simp only [List.mem_singleton] at he; subst he; exact ⟨by first | exact hw64.out.1 | exact hw64.out.2, by first | exact hw64.out.2 | exact hw64.out.1⟩))
          have hl9 := hid (show (edgesN (n, T.take k) false).length + ([(wo, wi)] : List Ed).length ≤ 100000000 by unfold edgesN; rw [List.length_map, List.length_take, List.length_singleton]; omega)
          have hb9 := hid (show w.heap.size ≤ (wG.alloc (Obj.cells #[.int .u64 (wo : Nat), .int .u64 (wi : Nat)] 65)).heap.size by have h1 := HB5.out.size; have h2 := HBG.out.size; simp; omega)
          go_upto_region 9 with (at_builtin; refine edRK.appL _ rfl (.tmp 29) (.tmp 31) rfl rfl (HOG.out.alloc _) (ys := [(wo, wi)]) (c := 1) rfl SG.out hl9.out hb9.out ?_; intro A9 c9 w9 ho9 hg9)
          have HO9 := hid ho9
          have hg9' := hid hg9
          clear ho9 hg9
          have HB9 := hid (show Below w.heap.size w w9 from ((HB5.out.trans (HBG.out.mono HB5.out.size)).alloc (by have h1 := HB5.out.size; have h2 := HBG.out.size; omega) _).grown hg9'.out hb9.out (fun g hg => (own_blk HO5.out g hg).1))
          go_wp2_with fail
          go_roundw
          case rel => exact ⟨k + 1, by omega, by go_num, by rw [hst.out, hed.out]; simpa using HO9.out, HB9.out⟩
          case measure => simp [intOf]; omega
        | true =>
          have cF0 := XF.out.cell 0; have cF1 := XF.out.cell 1; have zF := XF.out.lt; have fF := XF.out.frozen
          simp at cF0 cF1
          go_upto_region 8 with fail
          have HBG := hid ((HWF.out.setCell (p := ⟨gE, 0, none⟩) hge.out (.int .u64 (wi : Nat))).setCell (p := ⟨gE, 1, none⟩) hge.out (.int .u64 (wo : Nat)))
          have XG := hid (show Blk ((wG.setCell ⟨gE, 0, none⟩ (.int .u64 (wi : Nat))).setCell ⟨gE, 1, none⟩ (.int .u64 (wo : Nat))) gE 65 #[.int .u64 (wi : Nat), .int .u64 (wo : Nat)] by
            have := (XF.out.set_ 0 (.int .u64 (wi : Nat))).set_ 1 (.int .u64 (wo : Nat))
            simpa using this)
          clear XF HWF cF0 cF1 zF fF
          generalize ((wG.setCell ⟨gE, 0, none⟩ (.int .u64 (wi : Nat))).setCell ⟨gE, 1, none⟩ (.int .u64 (wo : Nat))) = wG at *
          have cG0 := XG.out.cell 0; have cG1 := XG.out.cell 1; have zG := XG.out.lt
          simp at cG0 cG1
          have HOG := hid (HO5.out.below HBG.out)
          have SG := hid (edRK.blk (l := [(wi, wo)]) (Blk.new wG 65 #[.int .u64 (wi : Nat), .int .u64 (wo : Nat)]) (by intro e he; simp only [List.mem_singleton] at he; subst he; exact ⟨by first | exact hw64.out.1 | exact hw64.out.2, by first | exact hw64.out.2 | exact hw64.out.1⟩))
          have hl9 := hid (show (edgesN (n, T.take k) true).length + ([(wi, wo)] : List Ed).length ≤ 100000000 by unfold edgesN; rw [List.length_map, List.length_take, List.length_singleton]; omega)
          have hb9 := hid (show w.heap.size ≤ (wG.alloc (Obj.cells #[.int .u64 (wi : Nat), .int .u64 (wo : Nat)] 65)).heap.size by have h1 := HB5.out.size; have h2 := HBG.out.size; simp; omega)
          go_upto_region 9 with (at_builtin; refine edRK.appL _ rfl (.tmp 29) (.tmp 31) rfl rfl (HOG.out.alloc _) (ys := [(wi, wo)]) (c := 1) rfl SG.out hl9.out hb9.out ?_; intro A9 c9 w9 ho9 hg9)
          have HO9 := hid ho9
          have hg9' := hid hg9
          clear ho9 hg9
          have HB9 := hid (show Below w.heap.size w w9 from ((HB5.out.trans (HBG.out.mono HB5.out.size)).alloc (by have h1 := HB5.out.size; have h2 := HBG.out.size; omega) _).grown hg9'.out hb9.out (fun g hg => (own_blk HO5.out g hg).1))
          go_wp2_with fail
          go_roundw
          case rel => exact ⟨k + 1, by omega, by go_num, by rw [hst.out, hed.out]; simpa using HO9.out, HB9.out⟩
          case measure => simp [intOf]; omega
    · obtain rfl : k = T.length := by omega
      rw [List.take_length] at HO
      clear hB
      go_wp2_with fail
      go_ret
      exact ⟨_, rfl, HO.out, HB.out⟩
end Go.Proofs.YteljfpcmpdpehaaGreatDoor
namespace Go.Proofs.YteljfpcmpdpehaaGreatDoor
open Go.RowKit Go.IntWalk Go.Shelf

/-- Is the list a siphon (a trap) of the net? -/
def isN (n : Int) (T : List Tr) (trap : Bool) (s : List Int) : Bool := setB n s && closedN (edgesN (n, T) trap) (wordN s)
theorem edgesN_len (n : Int) (T : List Tr) (trap : Bool) : (edgesN (n, T) trap).length = T.length := by unfold edgesN; rw [List.length_map]
set_option maxRecDepth 100000 in
set_option maxHeartbeats 2000000 in
theorem siphon_any (n : Int) (A : Option Addr) (c : Nat) (T : List Tr) (B : Option Addr) (d : Nat) (s : List Int) (w : World) (hl : T.length ≤ maxLen) (h : SlR w w.heap.size A T) (hs : s.length ≤ maxLen) (hS : SlR w w.heap.size B s) (hok : netOK (n, T) = true) :
    Calls Tryz.prog 12 #[.agg #[.int .i64 n, .slice A T.length c], .slice B s.length d] w fun e w' => e = .returned (.bool (isN n T false s)) ∧ Below w.heap.size w w' := by
  obtain ⟨w1, hw1⟩ : ∃ w1, w1 = (w.alloc (Obj.cells #[.int .i64 n, .slice A T.length c] 24)) := ⟨_, rfl⟩
  have B1 : Below w.heap.size w w1 := by rw [hw1]; (repeat (first | exact Below.refl _ _ | assumption | refine below_drewN ?_ _ | refine Below.drew ?_ | refine Below.alloc ?_ (by (try simp); (try omega)) _ | refine Below.setCell ?_ (by (try simp); (try omega)) _))
  have x1 : Blk w1 w.heap.size 24 #[.int .i64 n, .slice A T.length c] := by rw [hw1]; exact Blk.new w _ _
  have y0 := x1.cell 0; have y1 := x1.cell 1; have z1 := x1.lt
  simp at y0 y1
  have HB1 := hid B1
  have HI := hid (isSet_any n B d s w1 hs ((hS.below B1).more B1.size))
  have HE := hid (edges_any n A c T false w1 hl ((h.below B1).more B1.size) hok)
  have HW := hid (fun W (hW : Below w.heap.size w W) (hb : ∀ x ∈ s, 0 ≤ x ∧ x < 64) => word_any B d s W hs ((hS.below hW).more hW.size) hb)
  have HOK := hid (edges_ok hok false)
  have h64 : n ≤ 64 := by
    simp only [netOK, Bool.and_eq_true, decide_eq_true_eq] at hok
    exact hok.1.1.2
  have HN := hid (show isN n T false s = (setB n s && closedN (edgesN (n, T) false) (wordN s)) from rfl)
  have hle := edgesN_len n T false
  clear h hS x1 B1 hok
  go_enter Tryz.func12, Tryz.ntmps12
  go_upto_region 1 with fail
  rw [← hw1]
  clear hw1
  cases hq : setB n s with
  | false =>
    rw [hq] at HI
    have HQ := hid hq
    clear hq
    go_wp2_with (go_at_call 48; refine HI.out.mono ?_; rintro e w2 ⟨rfl, rfl⟩)
    go_ret
    exact ⟨ret_bool (by rw [HN.out, HQ.out]; rfl), HB1.out⟩
  | true =>
    rw [hq] at HI
    have HQ := hid hq
    have hr := hid (show ∀ x ∈ s, 0 ≤ x ∧ x < 64 from fun x hx => by have := setB_mem hq x hx; omega)
    have hv := hid (word64 h64 hq)
    clear hq
    generalize edgesN (n, T) false = L at *
    have HC := hid (fun W (B1 : Below w.heap.size w W) (A9 : Option Addr) (c9 : Nat) (h9 : SlR W W.heap.size A9 L) => closed_any A9 c9 L (wordN s) W (by rw [hle]; exact hl) h9 hv.out HOK.out)
    clear hle
    go_wp2_with (first | (go_at_call 48; refine HI.out.mono ?_; rintro e w2 ⟨rfl, rfl⟩) | (go_at_call 55; refine HE.out.mono ?_; rintro e w3 ⟨v3, rfl, ho3, hB3⟩; obtain ⟨A3, c3, rfl, _, _, hs3⟩ := ho3.slr HOK.out; have HB3 := hid (HB1.out.trans (hB3.mono HB1.out.size)); have HS3 := hid hs3; clear ho3 hB3 hs3) | (go_at_call 56; refine (HW.out _ HB3.out hr.out).mono ?_; rintro e w4 ⟨rfl, rfl⟩) | (go_at_call 54; refine (HC.out _ HB3.out A3 c3 HS3.out).mono ?_; rintro e w5 ⟨rfl, hB5⟩))
    have HB5 := hid (HB3.out.trans (hB5.mono HB3.out.size))
    clear hB5
    go_wp2_with fail
    go_ret
    exact ⟨ret_bool (by rw [HN.out, HQ.out]; rfl), HB5.out⟩
set_option maxRecDepth 100000 in
set_option maxHeartbeats 2000000 in
theorem trap_any (n : Int) (A : Option Addr) (c : Nat) (T : List Tr) (B : Option Addr) (d : Nat) (s : List Int) (w : World) (hl : T.length ≤ maxLen) (h : SlR w w.heap.size A T) (hs : s.length ≤ maxLen) (hS : SlR w w.heap.size B s) (hok : netOK (n, T) = true) :
    Calls Tryz.prog 14 #[.agg #[.int .i64 n, .slice A T.length c], .slice B s.length d] w fun e w' => e = .returned (.bool (isN n T true s)) ∧ Below w.heap.size w w' := by
  obtain ⟨w1, hw1⟩ : ∃ w1, w1 = (w.alloc (Obj.cells #[.int .i64 n, .slice A T.length c] 24)) := ⟨_, rfl⟩
  have B1 : Below w.heap.size w w1 := by rw [hw1]; (repeat (first | exact Below.refl _ _ | assumption | refine below_drewN ?_ _ | refine Below.drew ?_ | refine Below.alloc ?_ (by (try simp); (try omega)) _ | refine Below.setCell ?_ (by (try simp); (try omega)) _))
  have x1 : Blk w1 w.heap.size 24 #[.int .i64 n, .slice A T.length c] := by rw [hw1]; exact Blk.new w _ _
  have y0 := x1.cell 0; have y1 := x1.cell 1; have z1 := x1.lt
  simp at y0 y1
  have HB1 := hid B1
  have HI := hid (isSet_any n B d s w1 hs ((hS.below B1).more B1.size))
  have HE := hid (edges_any n A c T true w1 hl ((h.below B1).more B1.size) hok)
  have HW := hid (fun W (hW : Below w.heap.size w W) (hb : ∀ x ∈ s, 0 ≤ x ∧ x < 64) => word_any B d s W hs ((hS.below hW).more hW.size) hb)
  have HOK := hid (edges_ok hok true)
  have h64 : n ≤ 64 := by
    simp only [netOK, Bool.and_eq_true, decide_eq_true_eq] at hok
    exact hok.1.1.2
  have HN := hid (show isN n T true s = (setB n s && closedN (edgesN (n, T) true) (wordN s)) from rfl)
  have hle := edgesN_len n T true
  clear h hS x1 B1 hok
  go_enter Tryz.func14, Tryz.ntmps14
  go_upto_region 1 with fail
  rw [← hw1]
  clear hw1
  cases hq : setB n s with
  | false =>
    rw [hq] at HI
    have HQ := hid hq
    clear hq
    go_wp2_with (go_at_call 48; refine HI.out.mono ?_; rintro e w2 ⟨rfl, rfl⟩)
    go_ret
    exact ⟨ret_bool (by rw [HN.out, HQ.out]; rfl), HB1.out⟩
  | true =>
    rw [hq] at HI
    have HQ := hid hq
    have hr := hid (show ∀ x ∈ s, 0 ≤ x ∧ x < 64 from fun x hx => by have := setB_mem hq x hx; omega)
    have hv := hid (word64 h64 hq)
    clear hq
    generalize edgesN (n, T) true = L at *
    have HC := hid (fun W (B1 : Below w.heap.size w W) (A9 : Option Addr) (c9 : Nat) (h9 : SlR W W.heap.size A9 L) => closed_any A9 c9 L (wordN s) W (by rw [hle]; exact hl) h9 hv.out HOK.out)
    clear hle
    go_wp2_with (first | (go_at_call 48; refine HI.out.mono ?_; rintro e w2 ⟨rfl, rfl⟩) | (go_at_call 55; refine HE.out.mono ?_; rintro e w3 ⟨v3, rfl, ho3, hB3⟩; obtain ⟨A3, c3, rfl, _, _, hs3⟩ := ho3.slr HOK.out; have HB3 := hid (HB1.out.trans (hB3.mono HB1.out.size)); have HS3 := hid hs3; clear ho3 hB3 hs3) | (go_at_call 56; refine (HW.out _ HB3.out hr.out).mono ?_; rintro e w4 ⟨rfl, rfl⟩) | (go_at_call 54; refine (HC.out _ HB3.out A3 c3 HS3.out).mono ?_; rintro e w5 ⟨rfl, hB5⟩))
    have HB5 := hid (HB3.out.trans (hB5.mono HB3.out.size))
    clear hB5
    go_wp2_with fail
    go_ret
    exact ⟨ret_bool (by rw [HN.out, HQ.out]; rfl), HB5.out⟩
end Go.Proofs.YteljfpcmpdpehaaGreatDoor
namespace Go.Proofs.YteljfpcmpdpehaaGreatDoor
open Go.RowKit Go.IntWalk Go.Shelf

theorem large_word {n : Int} {T : List Tr} (hok : netOK (n, T) = true) (trap : Bool) : ∀ e ∈ edgesN (n, T) trap, e.1 < 2 ^ 64 := fun e he => (edges_ok hok trap e he).1
theorem sweep_take (l : List Ed) (w k : Nat) (hk : k < l.length) : sweep (l.take (k + 1)) w = if l[k].2 &&& sweep (l.take k) w = 0 then clr (sweep (l.take k) w) l[k].1 else sweep (l.take k) w := by
  unfold sweep
  rw [List.take_add_one, List.getElem?_eq_getElem hk, List.foldl_append]
  rfl
/-- What Largest hands back. -/
def LargeL (n : Int) (T : List Tr) (trap : Bool) (s r : List Int) : Prop := if setB n s = true then ∃ v, LargeR (edgesN (n, T) trap) (wordN s) v ∧ r = listN v else r = []
set_option maxRecDepth 100000 in
set_option maxHeartbeats 4000000 in
theorem largest_any (n : Int) (A : Option Addr) (c : Nat) (T : List Tr) (B : Option Addr) (d : Nat) (s : List Int) (trap : Bool) (w : World) (hl : T.length ≤ maxLen) (h : SlR w w.heap.size A T) (hs : s.length ≤ maxLen) (hS : SlR w w.heap.size B s) (hok : netOK (n, T) = true) (hE : PEnv w) :
    Calls Tryz.prog 17 #[.agg #[.int .i64 n, .slice A T.length c], .slice B s.length d, .bool trap] w fun e w' => ∃ A' c' r, e = .returned (.slice A' r.length c') ∧ LargeL n T trap s r ∧ OwnI w' w.heap.size (.slice A' r.length c') r ∧ Below w.heap.size w w' := by
  obtain ⟨w1, hw1⟩ : ∃ w1, w1 = (w.alloc (Obj.cells #[.int .i64 n, .slice A T.length c] 24)) := ⟨_, rfl⟩
  have B1 : Below w.heap.size w w1 := by rw [hw1]; (repeat (first | exact Below.refl _ _ | assumption | refine below_drewN ?_ _ | refine Below.drew ?_ | refine Below.alloc ?_ (by (try simp); (try omega)) _ | refine Below.setCell ?_ (by (try simp); (try omega)) _))
  have x1 : Blk w1 w.heap.size 24 #[.int .i64 n, .slice A T.length c] := by rw [hw1]; exact Blk.new w _ _
  have y0 := x1.cell 0; have y1 := x1.cell 1; have z1 := x1.lt
  simp at y0 y1
  have HB1 := hid B1
  have HENV := hid hE
  have HPOS := hid hE.pos
  have HI := hid (isSet_any n B d s w1 hs ((hS.below B1).more B1.size))
  have HE := hid (edges_any n A c T trap w1 hl ((h.below B1).more B1.size) hok)
  have HW := hid (fun W (hW : Below w.heap.size w W) (hb : ∀ x ∈ s, 0 ≤ x ∧ x < 64) => word_any B d s W hs ((hS.below hW).more hW.size) hb)
  have HOK := hid (edges_ok hok trap)
  have h64 : n ≤ 64 := by
    simp only [netOK, Bool.and_eq_true, decide_eq_true_eq] at hok
    exact hok.1.1.2
  have hle := edgesN_len n T trap
  clear h hS x1 B1 hok hE
  cases hq : setB n s with
  | false =>
    rw [hq] at HI
    have HN := hid (show LargeL n T trap s [] by unfold LargeL; rw [hq]; simp)
    clear hq
    go_enter Tryz.func17, Tryz.ntmps17
    go_upto_region 1 with fail
    rw [← hw1]
    clear hw1
    go_wp2_with (go_at_call 48; refine HI.out.mono ?_; rintro e w2 ⟨rfl, rfl⟩)
    go_ret
    exact ⟨none, 0, [], rfl, HN.out, OwnI.nil _ _, HB1.out⟩
  | true =>
    rw [hq] at HI
    have hr := hid (show ∀ x ∈ s, 0 ≤ x ∧ x < 64 from fun x hx => by have := setB_mem hq x hx; omega)
    have hv := hid (word64 h64 hq)
    have HN := hid (show ∀ r v, LargeR (edgesN (n, T) trap) (wordN s) v → r = listN v → LargeL n T trap s r from fun r v h1 h2 => by unfold LargeL; rw [hq]; exact ⟨v, h1, h2⟩)
    clear hq
    go_enter Tryz.func17, Tryz.ntmps17
    go_upto_region 1 with fail
    rw [← hw1]
    clear hw1
    generalize edgesN (n, T) trap = L at *
    generalize wordN s = ws at *
    have hle' : L.length ≤ maxLen := by rw [hle]; exact hl
    clear hle
    have hlm : L.length ≤ 9223372036854775807 := by unfold maxLen at hle'; omega
    go_upto_region 4 with (first | (go_at_call 48; refine HI.out.mono ?_; rintro e w2 ⟨rfl, rfl⟩) | (go_at_call 55; refine HE.out.mono ?_; rintro e w3 ⟨v3, rfl, ho3, hB3⟩; obtain ⟨A3, c3, rfl, _, _, hs3⟩ := ho3.slr HOK.out; have HB3 := hid (HB1.out.trans (hB3.mono HB1.out.size)); have HS3 := hid hs3; clear ho3 hB3 hs3) | (go_at_call 56; refine (HW.out _ HB3.out hr.out).mono ?_; rintro e w4 ⟨rfl, rfl⟩))
    go_loopw [8] (fun x wr => ∃ u : Nat, x = .int .u64 (u : Nat) ∧ u < 2 ^ 64 ∧ Below w.heap.size w wr ∧ Below w3.heap.size w3 wr ∧ ∀ r, LargeR L u r → LargeR L ws r) (fun x _ => (intOf x).toNat)
    case atStart => exact ⟨ws, rfl, hv.out, HB3.out, Below.refl _ _, fun r h => h⟩
    case round =>
      obtain ⟨u, rfl, hu, hB, hB3, hR⟩ := hrel
      have HB := hid hB
      have HB3r := hid hB3
      have HR := hid hR
      have HCl := hid (closed_any A3 c3 L u wr hle' ((HS3.out.below hB3).more hB3.size) hu HOK.out)
      have HLi := hid (fun (v : Nat) (hv : v < 2 ^ 64) (W : World) (hW : Below w.heap.size w W) => list_any v W hv (HENV.out.below hW HPOS.out))
      clear hB hB3 hR
      by_cases h0 : u = 0
      · subst h0
        have HF := hid (HN.out _ 0 (HR.out 0 (LargeR.end_ (.inl rfl))) rfl)
        go_wp2_with (go_at_call 58; refine (HLi.out 0 (by omega) _ HB.out).mono ?_; rintro e w9 ⟨A9, c9, rfl, ho9, hB9, _⟩)
        have HO9 := hid ho9
        have HB9 := hid (HB.out.trans (hB9.mono HB.out.size))
        clear ho9 hB9
        go_wp2_with fail
        go_ret
        exact ⟨A9, c9, listN 0, rfl, HF.out, own_base HO9.out HB.out.size, HB9.out⟩
      · have h0i : ¬ ((u : Int) = 0) := by omega
        cases hq : closedN L u with
        | true =>
          rw [hq] at HCl
          have HF := hid (HN.out _ u (HR.out u (LargeR.end_ (.inr hq))) rfl)
          clear hq
          go_wp2_with (first | (go_at_call 54; refine HCl.out.mono ?_; rintro e w5 ⟨rfl, hB5⟩; have HB5 := hid (HB.out.trans (hB5.mono HB.out.size)); clear hB5) | (go_at_call 58; refine (HLi.out u hu _ HB5.out).mono ?_; rintro e w9 ⟨A9, c9, rfl, ho9, hB9, _⟩))
          have HO9 := hid ho9
          have HB9 := hid (HB5.out.trans (hB9.mono HB5.out.size))
          clear ho9 hB9
          go_wp2_with fail
          go_ret
          exact ⟨A9, c9, listN u, rfl, HF.out, own_base HO9.out HB5.out.size, HB9.out⟩
        | false =>
          rw [hq] at HCl
          have hany := hid (not_closed h0 hq)
          clear hq
          go_upto_region 6 with (go_at_call 54; refine HCl.out.mono ?_; rintro e w5 ⟨rfl, hB5⟩; have HB5 := hid (HB.out.trans (hB5.mono HB.out.size)); have HB35 := hid (HB3r.out.trans (hB5.mono HB3r.out.size)); clear hB5)
          have hsw := hid (fun k (hk : k < L.length) => sweep_take L u k hk)
          have hswl := hid (fun k => sweep_le (L.take k) u)
          go_loopw [8, 31] (fun x i wq => ∃ (k v : Nat), k ≤ L.length ∧ i = .int .i64 k ∧ x = .int .u64 (v : Nat) ∧ v = sweep (L.take k) u ∧ Below w.heap.size w wq ∧ Below w3.heap.size w3 wq) (fun _ i _ => L.length - (intOf i).toNat)
          case atStart => exact ⟨0, u, by omega, rfl, rfl, rfl, HB5.out, HB35.out⟩
          case round =>
            obtain ⟨k, v, hk, rfl, rfl, hve, hB, hB3⟩ := hrel
            have hv64 : v < 2 ^ 64 := by have := hswl.out k; omega
            have HVe := hid hve
            clear hve
            by_cases hlt : k < L.length
            · have hlt' : (k : Int) < L.length := by omega
              have hsl := (HS3.out.below hB3).more hB3.size
              obtain ⟨b, off, rfl, hb, g0, g1⟩ := hsl.ed hlt
              have hst := hid (hsw.out k hlt)
              have hok := HOK.out _ (List.getElem_mem hlt)
              have HBq := hid hB
              have HB3q := hid hB3
              clear hB hB3 hsl
              generalize L[k] = x at *
              obtain ⟨p, q⟩ := x
              simp only at *
              have hst2 := hid (show sweep (L.take (k + 1)) u = if q &&& v = 0 then clr v p else v by rw [hst.out, ← HVe.out])
              have b1 := bits_and_u64_nat q v (by simpa using hok.2) (by simpa using hv64)
              have b2 := u64_andNot_nat v p (by simpa using hv64) (by simpa using hok.1)
              clear hst
              by_cases hz : q &&& v = 0
              · have hzi : (((q &&& v : Nat) : Int) = 0) := by omega
                have hst3 := hid (show sweep (L.take (k + 1)) u = v &&& (18446744073709551615 - p) by rw [hst2.out, if_pos hz]; rfl)
                clear hst2
                go_wp2_with fail
                go_roundw
                case rel => exact ⟨k + 1, v &&& (18446744073709551615 - p), by omega, by go_num, by simp [b2], hst3.out.symm, (by have h1 := HBq.out; have := h1.size; (repeat (first | exact Below.refl _ _ | assumption | refine below_drewN ?_ _ | refine Below.drew ?_ | refine Below.alloc ?_ (by (try simp); (try omega)) _ | refine Below.setCell ?_ (by (try simp); (try omega)) _))), (by have h1 := HB3q.out; have := h1.size; (repeat (first | exact Below.refl _ _ | assumption | refine below_drewN ?_ _ | refine Below.drew ?_ | refine Below.alloc ?_ (by (try simp); (try omega)) _ | refine Below.setCell ?_ (by (try simp); (try omega)) _)))⟩
                case measure => simp [intOf]; omega
              · have hzi : ¬ (((q &&& v : Nat) : Int) = 0) := by omega
                have hst3 := hid (show sweep (L.take (k + 1)) u = v by rw [hst2.out, if_neg hz])
                clear hst2
                go_wp2_with fail
                go_roundw
                case rel => exact ⟨k + 1, v, by omega, by go_num, rfl, hst3.out.symm, (by have h1 := HBq.out; have := h1.size; (repeat (first | exact Below.refl _ _ | assumption | refine below_drewN ?_ _ | refine Below.drew ?_ | refine Below.alloc ?_ (by (try simp); (try omega)) _ | refine Below.setCell ?_ (by (try simp); (try omega)) _))), (by have h1 := HB3q.out; have := h1.size; (repeat (first | exact Below.refl _ _ | assumption | refine below_drewN ?_ _ | refine Below.drew ?_ | refine Below.alloc ?_ (by (try simp); (try omega)) _ | refine Below.setCell ?_ (by (try simp); (try omega)) _)))⟩
                case measure => simp [intOf]; omega
            · obtain rfl : k = L.length := by omega
              rw [List.take_length] at HVe
              have HBq := hid hB
              have HB3q := hid hB3
              clear hB hB3
              go_wp2_with fail
              go_roundw
              case rel => exact ⟨v, rfl, hv64, HBq.out, HB3q.out, fun r hr => HR.out r (by rw [HVe.out] at hr; exact hr.step hu (fun e he => (HOK.out e he).1))⟩
              case measure => have := sweep_lt hu (fun e he => (HOK.out e he).1) hany.out; have := HVe.out; simp [intOf]; omega
end Go.Proofs.YteljfpcmpdpehaaGreatDoor
namespace Go.Proofs.YteljfpcmpdpehaaGreatDoor
open Go.RowKit Go.IntWalk Go.Shelf

def weightN (m w : List Int) : Int := ((m.zip w).map (fun p => p.1 * p.2)).sum
theorem zip_take : ∀ (m w : List Int) (k : Nat), (m.take k).zip (w.take k) = (m.zip w).take k
  | [], _, k => by simp
  | _ :: _, [], k => by cases k <;> simp
  | x :: m, y :: w, 0 => rfl
  | x :: m, y :: w, k + 1 => by simp [zip_take m w k]
theorem weightN_take (m w : List Int) (k : Nat) (h1 : k < m.length) (h2 : k < w.length) : weightN (m.take (k + 1)) (w.take (k + 1)) = weightN (m.take k) (w.take k) + m[k] * w[k] := by
  unfold weightN
  rw [zip_take, zip_take, List.take_add_one, List.getElem?_eq_getElem (by rw [List.length_zip]; omega), List.map_append, List.sum_append]
  simp
theorem mul_in {a b : Int} (ha : 0 ≤ a ∧ a ≤ 1099511627776) (hb : -100000 ≤ b ∧ b ≤ 100000) : -109951162777600000 ≤ a * b ∧ a * b ≤ 109951162777600000 := by
  have h1 : a * b ≤ a * 100000 := Int.mul_le_mul_of_nonneg_left hb.2 ha.1
  have h2 : a * (-100000) ≤ a * b := Int.mul_le_mul_of_nonneg_left hb.1 ha.1
  omega
theorem weightN_in (m w : List Int) (hm : ∀ x ∈ m, 0 ≤ x ∧ x ≤ 1099511627776) (hw : ∀ x ∈ w, -100000 ≤ x ∧ x ≤ 100000) : ∀ k : Nat, k ≤ m.length → k ≤ w.length → -((k : Int) * 109951162777600000) ≤ weightN (m.take k) (w.take k) ∧ weightN (m.take k) (w.take k) ≤ (k : Int) * 109951162777600000
  | 0, _, _ => by simp [weightN]
  | k + 1, h1, h2 => by
    have ih := weightN_in m w hm hw k (by omega) (by omega)
    have h3 := mul_in (hm _ (List.getElem_mem (show k < m.length by omega))) (hw _ (List.getElem_mem (show k < w.length by omega)))
    rw [weightN_take m w k (by omega) (by omega)]
    omega
set_option maxRecDepth 100000 in
set_option maxHeartbeats 1000000 in
theorem weight_any (A : Option Addr) (c : Nat) (m : List Int) (B : Option Addr) (d : Nat) (ws : List Int) (w : World) (h : SlR w w.heap.size A m) (hW : SlR w w.heap.size B ws) (hl : m.length ≤ 64) (hlw : m.length = ws.length)
    (hm : ∀ x ∈ m, 0 ≤ x ∧ x ≤ 1099511627776) (hw : ∀ x ∈ ws, -100000 ≤ x ∧ x ≤ 100000) :
    Calls Tryz.prog 28 #[.slice A m.length c, .slice B ws.length d] w fun e w' => e = .returned (.int .i64 (weightN m ws)) ∧ w = w' := by
  have HIN := hid (weightN_in m ws hm hw)
  have HT := hid (weightN_take m ws)
  have HLW := hid hlw
  have hl2 : ws.length ≤ 64 := by omega
  clear hlw
  go_enter Tryz.func28, Tryz.ntmps28
  go_wp2_with fail
  go_loopw [5, 10] (fun x i wr => ∃ k : Nat, k ≤ m.length ∧ i = .int .i64 k ∧ w = wr ∧ x = .int .i64 (weightN (m.take k) (ws.take k))) (fun _ i _ => m.length - (intOf i).toNat)
  case atStart => exact ⟨0, by omega, rfl, rfl, rfl⟩
  case round =>
    obtain ⟨k, hk, rfl, rfl, rfl⟩ := hrel
    by_cases hlt : k < m.length
    · have hlt' : (k : Int) < m.length := by omega
      have hltw : k < ws.length := by have := HLW.out; omega
      have hltw' : (k : Int) < ws.length := by omega
      obtain ⟨b, off, rfl, hb, g0, _⟩ := h.int hlt
      obtain ⟨b2, off2, rfl, hb2, g2, _⟩ := hW.int hltw
      have hi := HIN.out k (by omega) (by omega)
      have hp := mul_in (hm _ (List.getElem_mem hlt)) (hw _ (List.getElem_mem hltw))
      have ht := hid (HT.out k hlt hltw)
      generalize m[k] = x at *
      generalize ws[k] = y at *
      generalize hxy : x * y = z at *
      generalize weightN (m.take k) (ws.take k) = s at *
      have hs : -7036874417766400000 ≤ s ∧ s ≤ 7036874417766400000 := by omega
      have hz : IntKind.i64.wrap (x * y) = z := by rw [hxy]; simp [IntKind.wrap, IntKind.bits, IntKind.signed]; omega
      go_wp2_with fail
      go_roundw
      case rel => exact ⟨k + 1, by omega, by go_num, by first | trivial | rfl, by rw [ht.out]⟩
      case measure => simp [intOf]; omega
    · obtain rfl : k = m.length := by omega
      have hfin := hid (show weightN (m.take m.length) (ws.take m.length) = weightN m ws by rw [List.take_length, HLW.out, List.take_length])
      generalize weightN (m.take m.length) (ws.take m.length) = s at *
      go_wp2_with fail
      go_ret
      exact ⟨by rw [← hfin.out]; rfl, rfl⟩
end Go.Proofs.YteljfpcmpdpehaaGreatDoor
namespace Go.Proofs.YteljfpcmpdpehaaGreatDoor
open Go.RowKit Go.IntWalk Go.Shelf

def wtF (x : Int) : Bool := decide (x ≤ 100000) && decide (-100000 ≤ x)
def wtOK (n : Int) (ws : List Int) : Bool := ws.all wtF && decide ((ws.length : Int) = n)
set_option maxRecDepth 100000 in
set_option maxHeartbeats 1000000 in
theorem weights_any (n : Int) (A : Option Addr) (c m : Nat) (B : Option Addr) (d : Nat) (ws : List Int) (w : World) (hl : ws.length ≤ maxLen) (hW : SlR w w.heap.size B ws) :
    Calls Tryz.prog 23 #[.agg #[.int .i64 n, .slice A m c], .slice B ws.length d] w fun e w' => e = .returned (.bool (wtOK n ws)) ∧ Below w.heap.size w w' := by
  unfold maxLen at hl
  obtain ⟨w1, hw1⟩ : ∃ w1, w1 = (w.alloc (Obj.cells #[.int .i64 n, .slice A m c] 24)) := ⟨_, rfl⟩
  have B1 : Below w.heap.size w w1 := by rw [hw1]; (repeat (first | exact Below.refl _ _ | assumption | refine below_drewN ?_ _ | refine Below.drew ?_ | refine Below.alloc ?_ (by (try simp); (try omega)) _ | refine Below.setCell ?_ (by (try simp); (try omega)) _))
  have x1 : Blk w1 w.heap.size 24 #[.int .i64 n, .slice A m c] := by rw [hw1]; exact Blk.new w _ _
  have y0 := x1.cell 0; have z1 := x1.lt
  simp at y0
  have HB1 := hid B1
  have h1 := (hW.below B1).more B1.size
  have hno := hid (fun (k : Nat) (hk : k < ws.length) (hf : wtF ws[k] = false) => show wtOK n ws = false by
    unfold wtOK
    have : ws.all wtF = false := by
      rw [List.all_eq_false]
      exact ⟨_, List.getElem_mem hk, by simp [hf]⟩
    rw [this]; rfl)
  clear x1 B1 hW
  go_enter Tryz.func23, Tryz.ntmps23
  go_upto_region 1 with fail
  rw [← hw1]
  clear hw1
  go_upto_region 2 with fail
  go_loopw [5] (fun i wr => ∃ k : Nat, k ≤ ws.length ∧ i = .int .i64 k ∧ w1 = wr ∧ (ws.take k).all wtF = true) (fun i _ => ws.length - (intOf i).toNat)
  case atStart => exact ⟨0, by omega, rfl, rfl, by simp⟩
  case round =>
    obtain ⟨k, hk, rfl, rfl, ht⟩ := hrel
    have HT := hid ht
    clear ht
    by_cases hlt : k < ws.length
    · have hlt' : (k : Int) < ws.length := by omega
      obtain ⟨b, off, rfl, hb, g0, _⟩ := h1.int hlt
      have hf := hid (hno.out k hlt)
      have hst := hid (show (ws.take (k + 1)).all wtF = (wtF ws[k]) by rw [List.take_add_one, List.getElem?_eq_getElem hlt, List.all_append, HT.out]; simp)
      generalize ws[k] = x at *
      by_cases hx : 100000 < x
      · go_wp2_with fail
        go_ret
        exact ⟨ret_bool (by rw [hf.out (by simp [wtF]; omega)]), HB1.out⟩
      · by_cases hx2 : x < -100000
        · go_wp2_with fail
          go_ret
          exact ⟨ret_bool (by rw [hf.out (by simp [wtF]; omega)]), HB1.out⟩
        · go_wp2_with fail
          go_roundw
          case rel => exact ⟨k + 1, by omega, by go_num, by first | trivial | rfl, by rw [hst.out]; simp [wtF]; omega⟩
          case measure => simp [intOf]; omega
    · obtain rfl : k = ws.length := by omega
      rw [List.take_length] at HT
      have HN := hid (show wtOK n ws = decide ((ws.length : Int) = n) by unfold wtOK; rw [HT.out]; rfl)
      go_wp2_with fail
      go_ret
      exact ⟨ret_bool (by rw [HN.out]; first | rfl | (rw [Bool.eq_iff_iff]; simp)), HB1.out⟩
end Go.Proofs.YteljfpcmpdpehaaGreatDoor
