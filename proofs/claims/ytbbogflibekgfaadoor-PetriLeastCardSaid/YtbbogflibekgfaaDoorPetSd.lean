
/- Petri: Siphons: all words, sorted. -/
import Derived.Test.YtbbogflibekgfaaDoorPetSc
set_option linter.unusedSimpArgs false
set_option linter.unusedVariables false
namespace Go.Proofs.YtbbogflibekgfaaDoor
open Go.RowKit Go.IntWalk Go.Shelf

/-- All words of n places, sorted in place. -/
theorem sortall_any (N base c : Nat) (A : Option Addr) (l : List Nat) (w : World) (hN : N ≤ 14) (hE : Env w) (hbz : 0 < base) (hl : l = List.range' 1 (2 ^ N - 1)) (h : wdRK.Own w base (.slice A l.length c) l) :
    Calls Tryd.prog 28 #[.slice A l.length c, .func (.func 29) #[] #[]] w fun e w' => e = .returned (.tuple #[]) ∧
      ∃ ws : List Nat, WordsR N ws ∧ ws.length = l.length ∧ SlR w' w'.heap.size A ws ∧ Below base w w' := by
  have h14 : 2 ^ N ≤ 2 ^ 14 := Nat.pow_le_pow_right (by omega) hN
  have hlen : l.length = 2 ^ N - 1 := by rw [hl, List.length_range']
  have hlt : ∀ x ∈ l, x < 16384 := fun x hx => by
    rw [hl, List.mem_range'_1] at hx
    omega
  by_cases h0 : 0 < l.length
  · obtain ⟨g, cap, cur, hv, hg, -⟩ := own_cell h h0
    injection hv with hv1 _ hv3
    subst hv1 hv3
    refine (sortw_any base g c l w hE hbz (by omega) hlt h).mono ?_
    rintro e w' ⟨rfl, ws, hp, hs, ho, hgr⟩
    have hpl := hp.length_eq
    refine ⟨rfl, ws, ⟨hl ▸ hp, hs⟩, hpl, ?_, ?_⟩
    · obtain ⟨A9, c9, e9, _, _, hsl⟩ := ho.slr (fun x hx => by have := hlt x (hp.mem_iff.1 hx); show x < 2 ^ 64; omega)
      injection e9 with e9
      rw [e9]
      exact hsl
    · exact ⟨hgr.os, hgr.tape, hgr.output, hgr.size, fun k hk => by
        have hlt9 := World.ownsRow.lt h g rfl
        exact hgr.block k (by omega) (by simp; omega)⟩
  · have e : l = [] := List.eq_nil_of_length_eq_zero (by omega)
    subst e
    refine (sortn_any A c w).mono ?_
    rintro e w' ⟨rfl, rfl⟩
    refine ⟨rfl, [], ⟨?_, List.Pairwise.nil⟩, rfl, SlR.nil, Below.refl _ _⟩
    rw [← hl]
/-- A slice's header. -/
structure Hd where
  A : Option Addr
  n : Nat
  c : Nat
instance : Rep Hd := ⟨1, fun _ _ cs x => cs = [.slice x.A x.n x.c], fun _ _ h => h⟩
def hdRK : RK Hd where
  e := 25
  t := 31
  size := 1
  bytes := 24
  z := .slice none 0 0
  cs x := [.slice x.A x.n x.c]
  ok x := True
  und := Tryd.underlying31
  info := by kernel_rfl
  zcs := rfl
  pos := by omega
  small := by omega
  len _ := rfl
  one x v hv := by simp at hv; rcases hv with rfl; rfl
  rsz := rfl
  rep w B x h := rfl
  inv w B c x h := ⟨h, trivial⟩
/-- The headers are those of rows of the call's own, which hold the lists. -/
def Lies (w : World) (base : Nat) (H : List Hd) (L : List (List Int)) : Prop :=
  H.length = L.length ∧ ∀ k (hk : k < H.length) (hl : k < L.length), H[k].n = L[k].length ∧ OwnI w base (.slice H[k].A L[k].length H[k].c) L[k] ∧ ∀ x ∈ L[k], I64 x
theorem Lies.nil {w : World} {base : Nat} : Lies w base [] [] := ⟨rfl, fun k hk => absurd hk (by simp)⟩
theorem Lies.kept {w w' : World} {base : Nat} {H : List Hd} {L : List (List Int)} (h : Lies w base H L) (hk : KT [3] w w') : Lies w' base H L :=
  ⟨h.1, fun k h1 h2 => ⟨(h.2 k h1 h2).1, own_kt (h.2 k h1 h2).2.1 hk (by simp), (h.2 k h1 h2).2.2⟩⟩
theorem Lies.push {w : World} {base : Nat} {H : List Hd} {L : List (List Int)} (h : Lies w base H L) {A : Option Addr} {l : List Int} {c : Nat} (ho : OwnI w base (.slice A l.length c) l) (hi : ∀ x ∈ l, I64 x) : Lies w base (H ++ [⟨A, l.length, c⟩]) (L ++ [l]) := by
  refine ⟨by rw [List.length_append, List.length_append, h.1]; rfl, fun k h1 h2 => ?_⟩
  by_cases hk : k < H.length
  · have hk2 : k < L.length := by have := h.1; omega
    rw [List.getElem_append_left hk, List.getElem_append_left hk2]
    exact h.2 k hk hk2
  · have e : k = H.length := by rw [List.length_append, List.length_singleton] at h1; omega
    have e2 : k = L.length := by have := h.1; omega
    have g1 : (H ++ [(⟨A, l.length, c⟩ : Hd)])[k] = ⟨A, l.length, c⟩ := by subst e; simp
    have g2 : (L ++ [l])[k] = l := by subst e2; simp
    rw [g1, g2]
    exact ⟨rfl, ho, hi⟩
theorem Lies.slr {w : World} {base B : Nat} {H : List Hd} {L : List (List Int)} (h : Lies w base H L) {A : Option Addr} (hs : SlR w B A H) (hB : B ≤ w.heap.size) : SlR w w.heap.size A L := by
  intro k l hl
  obtain ⟨hk, rfl⟩ := List.getElem?_eq_some_iff.1 hl
  have hk1 : k < H.length := by rw [h.1]; exact hk
  obtain ⟨hn, ho, hi⟩ := h.2 k hk1 hk
  obtain ⟨b, off, es, hA, hb, hsz, hc, hr⟩ := hs k _ (List.getElem?_eq_getElem hk1)
  obtain ⟨A9, c9, e9, g1, g2, g3⟩ := ho.slr hi
  injection e9 with e1 _ e3
  refine ⟨b, off, es, hA, by omega, hsz, hc, A9, c9, ?_, g1, g2, g3⟩
  rw [← e1, ← e3, ← hn]
  exact hr
theorem minF_mem (E : List Ed) (ws : List Nat) (k : Nat) : ∀ x ∈ minF E (ws.take k), x ∈ ws := by
  induction k with
  | zero => intro x hx; simp [minF] at hx
  | succ k ih =>
    intro x hx
    by_cases hk : k < ws.length
    · rw [minF_succ E ws k hk] at hx
      unfold minS at hx
      split at hx
      · exact ih x hx
      · rcases List.mem_append.1 hx with h | h
        · exact ih x h
        · rw [List.mem_singleton] at h; rw [h]; exact List.getElem_mem hk
    · rw [List.take_of_length_le (by omega)] at hx
      rw [List.take_of_length_le (by omega)] at ih
      exact ih x hx
theorem minF_len (E : List Ed) (ws : List Nat) (k : Nat) : (minF E (ws.take k)).length ≤ k := by
  induction k with
  | zero => simp [minF]
  | succ k ih =>
    by_cases hk : k < ws.length
    · rw [minF_succ E ws k hk]
      unfold minS
      split
      · omega
      · rw [List.length_append, List.length_singleton]; omega
    · rw [List.take_of_length_le (by omega)]
      rw [List.take_of_length_le (by omega)] at ih
      omega
set_option maxRecDepth 100000 in
set_option maxHeartbeats 4000000 in
theorem siphons_any (N : Nat) (A : Option Addr) (c : Nat) (T : List Tr) (w : World) (hN : N ≤ 14) (h : SlR w w.heap.size A T) (hok : netOK ((N : Int), T) = true) (hE : Env w) :
    Calls Tryd.prog 11 #[.agg #[.int .i64 (N : Nat), .slice A T.length c]] w fun e w' => ∃ (ws : List Nat) (A' : Option Addr) (c' : Nat), WordsR N ws ∧
      e = .returned (.tuple #[.slice A' (minF (edgesN ((N : Int), T) false) ws).length c', .int .i64 0]) ∧ SlR w' w'.heap.size A' ((minF (edgesN ((N : Int), T) false) ws).map listN) ∧ Below w.heap.size w w' := by
  obtain ⟨w1, hw1⟩ : ∃ w1, w1 = (w.alloc (Obj.cells #[.int .i64 (N : Nat), .slice A T.length c] 24)) := ⟨_, rfl⟩
  have B1 : Below w.heap.size w w1 := by rw [hw1]; (repeat (first | exact Below.refl _ _ | assumption | refine below_drewN ?_ _ | refine Below.drew ?_ | refine Below.alloc ?_ (by (try simp); (try omega)) _ | refine Below.setCell ?_ (by (try simp); (try omega)) _))
  have x1 : Blk w1 w.heap.size 24 #[.int .i64 (N : Nat), .slice A T.length c] := by rw [hw1]; exact Blk.new w _ _
  have y0 := x1.cell 0; have y1 := x1.cell 1; have z1 := x1.lt
  simp at y0 y1
  have HB1 := hid B1
  have HE := hid hE
  have HX := hid x1
  have h5000 : T.length ≤ 5000 := by
    simp only [netOK, Bool.and_eq_true, decide_eq_true_eq] at hok
    exact hok.1.2
  have hEd := hid (edges_any (N : Int) A c T false w1 (by unfold maxLen; omega) ((h.below B1).more B1.size) hok)
  have HOK := hid (edges_ok hok false)
  have hle := hid (edgesN_len (N : Int) T false)
  have hNi : ¬ (14 < (N : Int)) := by omega
  clear h hok hE x1 B1
  generalize edgesN ((N : Int), T) false = E at *
  go_enter Tryd.func11, Tryd.ntmps11
  go_upto_region 1 with fail
  rw [← hw1]
  clear hw1
  go_upto_region 3 with fail
  go_upto_region 4 with fail
  refine hEd.out.mono ?_
  rintro e w3 ⟨v3, rfl, ho3, hB3⟩
  obtain ⟨A3, c3, rfl, _, _, hs3⟩ := ho3.slr HOK.out
  have HB3 := hid (HB1.out.trans (hB3.mono HB1.out.size))
  have HS3 := hid hs3
  have X3 := hid (HX.out.below hB3 HX.out.lt)
  clear ho3 hB3 hs3 hEd y0 y1 z1
  have y0 := X3.out.cell 0; have z3 := X3.out.lt
  simp at y0
  obtain ⟨P, hP⟩ : ∃ P : Nat, P = 2 ^ N := ⟨_, rfl⟩
  have hp : IntKind.u64.wrap (2 ^ N) = (P : Int) := by rw [hP]; exact pow_u64 (by omega)
  have hP14 : P ≤ 16384 := by rw [hP]; exact Nat.pow_le_pow_right (n := 2) (by omega) hN
  have hP1 : 1 ≤ P := by rw [hP]; exact Nat.two_pow_pos N
  have HP := hid hP
  have hz3 := hid (show 0 < w3.heap.size by omega)
  clear hP
  go_upto_region 6 with fail
  go_loopw [5, 6] (fun v x wr => ∃ k : Nat, 1 ≤ k ∧ k ≤ P ∧ x = .int .u64 (k : Nat) ∧ wdRK.Own wr w3.heap.size v (List.range' 1 (k - 1)) ∧ Below w3.heap.size w3 wr) (fun _ x _ => P - (intOf x).toNat)
  case atStart => exact ⟨1, by omega, by omega, rfl, RK.Own.nil, Below.refl _ _⟩
  case round =>
    obtain ⟨k, hk1, hk, rfl, ho, hB⟩ := hrel
    have HO := hid ho
    have HB := hid hB
    replace y0 := (bcell hB _ 0 z3).trans y0
    have z3r : w.heap.size < wr.heap.size := by have := hB.size; omega
    clear ho hB
    by_cases hlt : k < P
    · have hlt' : (k : Int) < P := by omega
      have SG := hid (wdRK.blk (l := [k]) (Blk.new wr 52 #[.int .u64 (k : Nat)]) (by intro e he; simp only [List.mem_singleton] at he; subst he; show e < 2 ^ 64; omega))
      have hl9 := hid (show (List.range' 1 (k - 1)).length + ([k] : List Nat).length ≤ 100000000 by rw [List.length_range', List.length_singleton]; omega)
      have hb9 := hid (show w3.heap.size ≤ (wr.alloc (Obj.cells #[.int .u64 (k : Nat)] 52)).heap.size by have h1 := HB.out.size; simp; omega)
      go_upto_region 7 with (at_builtin; refine wdRK.appL _ rfl (.tmp 23) (.tmp 25) rfl rfl (HO.out.alloc _) (ys := [k]) (c := 1) rfl SG.out hl9.out hb9.out ?_; intro A9 c9 w9 ho9 hg9)
      have HO9 := hid (show wdRK.Own w9 w3.heap.size (.slice A9 k c9) (List.range' 1 (k + 1 - 1)) from by
        rw [List.length_range', List.length_singleton, show k - 1 + 1 = k by omega] at ho9
        rw [show k + 1 - 1 = k - 1 + 1 by omega, List.range'_1_concat, show 1 + (k - 1) = k by omega]
        exact ho9)
      have HB9 := hid (show Below w3.heap.size w3 w9 from (HB.out.alloc HB.out.size _).grown hg9 hb9.out (fun g hg => (own_blk HO.out g hg).1))
      clear ho9 hg9
      go_wp2_with fail
      go_roundw
      case rel => exact ⟨k + 1, by omega, by omega, by go_num, HO9.out, HB9.out⟩
      case measure => simp [intOf]; omega
    · obtain rfl : k = P := by omega
      go_upto_region 9 with fail
      clear y0 z3r hp
      obtain ⟨A5, c5, hu5⟩ := HO.out.form
      subst hu5
      have HBr := hid (HB3.out.trans (HB.out.mono HB3.out.size))
      have hsort := hid (sortall_any N w3.heap.size c5 A5 (List.range' 1 (k - 1)) wr hN (HE.out.below HBr.out HE.out.pos) hz3.out (by rw [HP.out]) HO.out)
      have HS3r := hid ((HS3.out.below HB.out).more HB.out.size)
      have hlen := hid (show (List.range' 1 (k - 1)).length = k - 1 by rw [List.length_range'])
      clear HO HP
      generalize List.range' 1 (k - 1) = l0 at *
      go_upto_region 10 with (go_at_call 28; refine hsort.out.mono ?_; rintro e w9 ⟨rfl, ws, hws, hwl, hsl, hB9⟩)
      have HS9 := hid ((HS3.out.below (HB.out.trans hB9)).more (HB.out.trans hB9).size)
      have HBw := hid (HB3.out.trans ((HB.out.trans hB9).mono HB3.out.size))
      rw [← hwl]
      have hwlen : ws.length ≤ 16384 := by have := hlen.out; omega
      have HWS := hid hws
      have hw14 := hid (show ∀ x ∈ ws, x < 16384 from fun x hx => by
        have := hws.perm.mem_iff.1 hx
        rw [List.mem_range'_1] at this
        have : 2 ^ N ≤ 2 ^ 14 := Nat.pow_le_pow_right (by omega) hN
        omega)
      have HE9 := hid (HE.out.below HBw.out HE.out.pos)
      clear hwl hlen hsort HS3r HBr hk1 hB9 hws HS3 HB HB3 X3 z3 hz3 hP14 hP1 hk hlt HX HB1
      go_upto_region 13 with fail
      go_loopw [7, 8, 31] (fun vf vo i wr => ∃ (k : Nat) (H : List Hd), k ≤ ws.length ∧ i = .int .i64 k ∧ wdRK.Own wr w9.heap.size vf (minF E (ws.take k)) ∧ hdRK.Own wr w9.heap.size vo H ∧ Lies wr w9.heap.size H ((minF E (ws.take k)).map listN) ∧ Below w9.heap.size w9 wr) (fun _ _ i _ => ws.length - (intOf i).toNat)
      case atStart => exact ⟨0, [], by omega, rfl, RK.Own.nil, RK.Own.nil, Lies.nil, Below.refl _ _⟩
      case round =>
        obtain ⟨k, H, hk, rfl, hof, hoo, hli, hB⟩ := hrel
        have HF := hid hof
        have HO := hid hoo
        have HLi := hid hli
        have HB := hid hB
        clear hof hoo hli
        by_cases hlt : k < ws.length
        · have hlt' : (k : Int) < ws.length := by omega
          obtain ⟨b, off, rfl, hb, g0⟩ := hsl.wd hlt
          replace g0 := (bcell hB b _ hb).trans g0
          have hz : b < wr.heap.size := by have := hB.size; omega
          have hv14 := hw14.out _ (List.getElem_mem hlt)
          have hst := hid (minF_succ E ws k hlt)
          have hFl := hid (minF_len E ws k)
          have hFw := hid (fun x hx => hw14.out x (minF_mem E ws k x hx))
          obtain ⟨Af, cf, hvf, hfc, hfm, hfs⟩ := HF.out.slr (fun x hx => by have := hFw.out x hx; show x < 2 ^ 64; omega)
          subst hvf
          have HFS := hid hfs
          clear hB hfs hfc hfm
          generalize ws[k] = v at *
          generalize minF E (ws.take k) = F at *
          go_upto_region 15 with fail
          have hms := hid (show minS E F v = if F.any (fun f => decide (clr f v = 0)) || !closedN E v then F else F ++ [v] from rfl)
          have HB5 := hid (show Below w9.heap.size w9 (wr.alloc (Obj.cells #[.int .u64 (v : Nat)] 52)) from HB.out.alloc HB.out.size _)
          have X5 := hid (Blk.new wr 52 #[.int .u64 (v : Nat)])
          have HF5 := hid (HF.out.alloc (Obj.cells #[.int .u64 (v : Nat)] 52))
          have HO5 := hid (HO.out.alloc (Obj.cells #[.int .u64 (v : Nat)] 52))
          have HL5 := hid (HLi.out.kept (w' := wr.alloc (Obj.cells #[.int .u64 (v : Nat)] 52)) (KT.of_below ((Below.refl _ _).alloc (Nat.le_refl _) _)))
          have HFS5 := hid ((HFS.out.alloc (Nat.le_refl _) (Obj.cells #[.int .u64 (v : Nat)] 52)).more (B' := (wr.alloc (Obj.cells #[.int .u64 (v : Nat)] 52)).heap.size) (by simp))
          have hne := hid (show ∀ g, (Value.slice Af F.length cf).ownBlock = some g → g ≠ wr.heap.size from fun g hg => by have := World.ownsRow.lt HF.out g hg; omega)
          clear HB HF HO HLi HFS g0 hz
          generalize wr.heap.size = gX at *
          generalize (wr.alloc (Obj.cells #[.int .u64 (v : Nat)] 52)) = w5 at *
          have hv64 := hid (show v < 2 ^ 64 by omega)
          have HC := hid (ctu_any 36 #[.pointer (some ⟨gX, 0, none⟩)] (enters_of Tryd.func36 (by kernel_rfl) rfl) Af cf F (fun f => decide (clr f v = 0)) w5 (by have := hFl.out; unfold maxLen; omega) HFS5.out (fun x W hx hW =>
            (insub_any gX v x W (by have := hFw.out x hx; omega) hv64.out (X5.out.below hW X5.out.lt)).mono (fun e w' ⟨he, hb⟩ => ⟨he, hW.trans (hb.mono hW.size)⟩)))
          have HCl := hid (fun W (hW : Below w5.heap.size w5 W) => closed_any A3 c3 E v W (by rw [hle.out]; unfold maxLen; omega) ((HS9.out.below (HB5.out.trans (hW.mono HB5.out.size))).more (HB5.out.trans (hW.mono HB5.out.size)).size) hv64.out HOK.out)
          have c5 := X5.out.cell 0; have z5 := X5.out.lt
          simp at c5
          generalize F.any (fun f => decide (clr f v = 0)) = b1 at *
          generalize closedN E v = b2 at *
          cases b1 with
          | true =>
            have hst2 := hid (show minF E (ws.take (k + 1)) = F by rw [hst.out, hms.out]; simp)
            as_aux_lemma =>
              go_upto_region 15 with fail
              go_wp2_with (go_at_call 35; refine HC.out.mono ?_; rintro e w6 ⟨rfl, hB6⟩)
              have HB6 := hid hB6
              clear hB6
              go_roundw
              case rel => exact ⟨k + 1, H, by omega, by go_num, by rw [hst2.out]; exact HF5.out.below HB6.out, HO5.out.below HB6.out, by rw [hst2.out]; exact HL5.out.kept (KT.of_below HB6.out), HB5.out.trans (HB6.out.mono HB5.out.size)⟩
              case measure => simp [intOf]; omega
          | false =>
            cases b2 with
            | false =>
              have hst2 := hid (show minF E (ws.take (k + 1)) = F by rw [hst.out, hms.out]; simp)
              as_aux_lemma =>
                go_wp2_with fail
                refine HC.out.mono ?_
                rintro e w6 ⟨rfl, hB6⟩
                have c6 := (bcell hB6 _ 0 z5).trans c5
                have z6 : gX < w6.heap.size := by have := hB6.size; omega
                have HC7 := hid (HCl.out w6 hB6)
                have HB6 := hid hB6
                clear hB6 HCl
                go_wp2_with (go_at_call 37; refine HC7.out.mono ?_; rintro e w7 ⟨rfl, hB7⟩)
                have HB7 := hid (HB6.out.trans (hB7.mono HB6.out.size))
                clear hB7
                go_roundw
                case rel => exact ⟨k + 1, H, by omega, by go_num, by rw [hst2.out]; exact HF5.out.below HB7.out, HO5.out.below HB7.out, by rw [hst2.out]; exact HL5.out.kept (KT.of_below HB7.out), HB5.out.trans (HB7.out.mono HB5.out.size)⟩
                case measure => simp [intOf]; omega
            | true =>
              have hst2 := hid (show minF E (ws.take (k + 1)) = F ++ [v] by rw [hst.out, hms.out]; simp)
              go_wp2_with fail
              refine HC.out.mono ?_
              rintro e w6 ⟨rfl, hB6⟩
              have c6 := (bcell hB6 _ 0 z5).trans c5
              have z6 : gX < w6.heap.size := by have := hB6.size; omega
              have HC7 := hid (HCl.out w6 hB6)
              have HB6 := hid hB6
              clear hB6 HCl
              go_upto_region 16 with (go_at_call 37; refine HC7.out.mono ?_; rintro e w7 ⟨rfl, hB7⟩)
              have hB57 := HB6.out.trans (hB7.mono HB6.out.size)
              have HB7 := hid (HB5.out.trans (hB57.mono HB5.out.size))
              have X7 := hid (X5.out.below hB57 X5.out.lt)
              have HF7 := hid (HF5.out.below hB57)
              have HO7 := hid (HO5.out.below hB57)
              have HL7 := hid (HL5.out.kept (KT.of_below hB57))
              have HS7 := hid (hB57)
              clear hB57 hB7 HC7 HB6 c6 z6 c5 z5 HC HF5 HO5 HL5 HFS5 X5 HB5
              have HSF := hid (fun (wq : World) (hq : Below w9.heap.size w9 wq ∧ Blk wq gX 52 #[.int .u64 (v : Nat)]) => (hq.2.cell 0).trans (show (#[.int .u64 (v : Nat)] : Array Value)[0]? = some (.int .u64 (v : Nat)) from rfl))
              have BD := hid (show Below w9.heap.size w9 w7.drew from HB7.out.drew)
              have XD := hid (X7.out.drew)
              have HFD := hid (HF7.out.drew)
              have HOD := hid (HO7.out.drew)
              have HLD := hid (HL7.out.kept (KT.of_below ((Below.refl _ _).drew)))
              refine wpIn_wide.1 (wpIn_region_S (n := 0) (fun wq => Below w9.heap.size w9 wq ∧ Blk wq gX 52 #[.int .u64 (v : Nat)]) [] (by kernel_rfl) ⟨BD.out, XD.out⟩ (fun hHeld => ?_))
              clear HB7 X7 HF7 HO7 HL7 HS7
              generalize w7.drew = wd at *
              refine wpAnyS_pure 0 (v := ?_) (fun _ => trivial) (by simp only [List.getElem?_toArray, List.getElem?_cons_succ, List.getElem?_cons_zero]; rfl) (by kernel_rfl) (fun _ _ _ _ _ h => h) ⟨rfl, (by intro c h; cases h), ?_⟩ hHeld ?_
              rotate_left
              focus (intro wS hSw; (try replace hSw := HSF.out wS hSw); (try dsimp only at hSw); go_simp; (try with_reducible rfl))
              (try simp only [Act.put, List.setIfInBounds_toArray, List.set_cons_zero, List.set_cons_succ])
              refine wpAnyS_take 1 (v := ?_) (fun _ => trivial) (by simp only [List.getElem?_toArray, List.getElem?_cons_succ, List.getElem?_cons_zero]; rfl) (by kernel_rfl) (fun _ _ _ _ _ h => h) ⟨rfl, (by intro c h; cases h), ?_⟩ hHeld ?_
              rotate_left
              focus (intro wS hSw; (try replace hSw := HSF.out wS hSw); (try dsimp only at hSw); go_simp; (try with_reducible rfl))
              (try simp only [Act.put, List.setIfInBounds_toArray, List.set_cons_zero, List.set_cons_succ])
              refine wpAnyS_pure 4 (v := ?_) (fun _ => trivial) (by simp only [List.getElem?_toArray, List.getElem?_cons_succ, List.getElem?_cons_zero]; rfl) (by kernel_rfl) (fun _ _ _ _ _ h => h) ⟨rfl, (by intro c h; cases h), ?_⟩ hHeld ?_
              rotate_left
              focus (intro wS hSw; (try replace hSw := HSF.out wS hSw); (try dsimp only at hSw); go_simp; (try with_reducible rfl))
              (try simp only [Act.put, List.setIfInBounds_toArray, List.set_cons_zero, List.set_cons_succ])
              refine wpAnyS_take 5 (v := ?_) (fun _ => trivial) (by simp only [List.getElem?_toArray, List.getElem?_cons_succ, List.getElem?_cons_zero]; rfl) (by kernel_rfl) (fun _ _ _ _ _ h => h) ⟨rfl, (by intro c h; cases h), ?_⟩ hHeld ?_
              rotate_left
              focus (intro wS hSw; (try replace hSw := HSF.out wS hSw); (try dsimp only at hSw); go_simp; (try with_reducible rfl))
              (try simp only [Act.put, List.setIfInBounds_toArray, List.set_cons_zero, List.set_cons_succ])
              refine wpAnyS_ready [2] (by kernel_rfl) (by simp) (AllReadyS.cons (by simp only [List.getElem?_toArray, List.getElem?_cons_succ, List.getElem?_cons_zero]; rfl) rfl (fun K hK => ?_) AllReadyS.nil)
              go_simp
              have BA := hid (BD.out.alloc BD.out.size (Obj.cells #[.int .u64 (v : Nat)] 52))
              have XA := hid (XD.out.alloc (Obj.cells #[.int .u64 (v : Nat)] 52))
              have SA := hid (wdRK.blk (l := [v]) (Blk.new wd 52 #[.int .u64 (v : Nat)]) (by intro e he; simp only [List.mem_singleton] at he; subst he; exact hv64.out))
              have HFA := hid (HFD.out.alloc (Obj.cells #[.int .u64 (v : Nat)] 52))
              have HOA := hid (HOD.out.alloc (Obj.cells #[.int .u64 (v : Nat)] 52))
              have HLA := hid (HLD.out.kept (w' := wd.alloc (Obj.cells #[.int .u64 (v : Nat)] 52)) (KT.of_below ((Below.refl _ _).alloc (Nat.le_refl _) _)))
              refine hK.out _ _ ⟨BA.out, XA.out⟩ ?_
              clear hK K hHeld
              (try simp only [Act.put, List.setIfInBounds_toArray, List.set_cons_zero, List.set_cons_succ])
              clear BD XD HFD HOD HLD
              generalize wd.heap.size = gA at *
              generalize (wd.alloc (Obj.cells #[.int .u64 (v : Nat)] 52)) = wa at *
              refine wpAnyS_ready [3] (by kernel_rfl) (by simp) (AllReadyS.cons (by simp only [List.getElem?_toArray, List.getElem?_cons_succ, List.getElem?_cons_zero]; rfl) rfl (fun K hK => ?_) AllReadyS.nil)
              have hl9 := hid (show F.length + ([v] : List Nat).length ≤ 100000000 by have := hFl.out; rw [List.length_singleton]; omega)
              refine wdRK.appS (fun _ => trivial) (.tmp 44) (.tmp 46) rfl rfl HFA.out (ys := [v]) (c := 1) rfl SA.out hl9.out BA.out.size ?_
              intro Ab cb wb hob hgb
              have BB := hid (show Below w9.heap.size w9 wb from BA.out.grown hgb BA.out.size (fun g hg => (own_blk HFA.out g hg).1))
              have XB := hid (show Blk wb gX 52 #[.int .u64 (v : Nat)] from XA.out.grown hgb (fun e => hne.out _ e.symm rfl))
              have KB := hid (show KT [3, 25] wa wb from KT.of_grown hgb (fun g hg => by obtain ⟨_, cs, hb⟩ := own_blk HFA.out g hg; exact ⟨_, cs, hb, by decide⟩))
              have HFB := hid (show wdRK.Own wb w9.heap.size (.slice Ab (F.length + 1) cb) (F ++ [v]) from hob)
              have HOB := hid (show hdRK.Own wb w9.heap.size u8 H from own_kt HOA.out KB.out (by decide))
              have HLB := hid (HLA.out.kept (fun g t cs ht hb => KB.out g t cs (by simp at ht; simp [ht]) hb))
              refine hK.out _ _ ⟨BB.out, XB.out⟩ ?_
              clear hK K hob hgb HFA HOA HLA KB SA XA BA
              (try simp only [Act.put, List.setIfInBounds_toArray, List.set_cons_zero, List.set_cons_succ])
              have HLs := hid (list_any v wb hv64.out (HE9.out.below BB.out HE9.out.pos))
              have hLl := hid (listN_len v)
              have hLi := hid (listN_i64 v)
              have hmap := hid (show (F ++ [v]).map listN = F.map listN ++ [listN v] by rw [List.map_append]; rfl)
              generalize listN v = lv at *
              refine wpAnyS_ready [6] (by kernel_rfl) (by simp) (AllReadyS.cons (by simp only [List.getElem?_toArray, List.getElem?_cons_succ, List.getElem?_cons_zero]; rfl) rfl (fun K hK => ?_) AllReadyS.nil)
              refine callV (R := fun u w' => ∃ (Al : Option Addr) (cl : Nat), u = .slice Al lv.length cl ∧ OwnI w' wb.heap.size (.slice Al lv.length cl) lv ∧ Below wb.heap.size wb w') (by intro c h; cases h) (by go_simp; try with_reducible rfl) (HLs.out.mono (fun e w' ⟨Al, cl, he, ho, hb, _⟩ => ⟨_, he, Al, cl, rfl, ho, hb⟩)) ?_
              rintro u wc ⟨Al, cl, rfl, hol, hbl⟩
              have BC := hid (show Below w9.heap.size w9 wc from BB.out.trans (hbl.mono BB.out.size))
              have XC := hid (XB.out.below hbl XB.out.lt)
              have HFC := hid (HFB.out.below hbl)
              have HOC := hid (HOB.out.below hbl)
              have HLC := hid (HLB.out.kept (KT.of_below hbl))
              have HNC := hid (show OwnI wc w9.heap.size (.slice Al lv.length cl) lv from own_base hol BB.out.size)
              refine hK.out _ _ ⟨BC.out, XC.out⟩ ?_
              clear hK K hol hbl BB XB HFB HOB HLB HLs
              (try simp only [Act.put, List.setIfInBounds_toArray, List.set_cons_zero, List.set_cons_succ])
              refine wpAnyS_ready [7] (by kernel_rfl) (by simp) (AllReadyS.cons (by simp only [List.getElem?_toArray, List.getElem?_cons_succ, List.getElem?_cons_zero]; rfl) rfl (fun K hK => ?_) AllReadyS.nil)
              go_simp
              have BE := hid (BC.out.alloc BC.out.size (Obj.cells #[.slice Al lv.length cl] 25))
              have XE := hid (XC.out.alloc (Obj.cells #[.slice Al lv.length cl] 25))
              have SE := hid (hdRK.blk (l := [⟨Al, lv.length, cl⟩]) (Blk.new wc 25 #[.slice Al lv.length cl]) (fun _ _ => trivial))
              have hbe := (Below.refl wc.heap.size wc).alloc (Nat.le_refl _) (Obj.cells #[.slice Al lv.length cl] 25)
              have HFE := hid (HFC.out.below hbe)
              have HOE := hid (HOC.out.below hbe)
              have HLE := hid (HLC.out.kept (KT.of_below hbe))
              have HNE := hid (HNC.out.below hbe)
              refine hK.out _ _ ⟨BE.out, XE.out⟩ ?_
              clear hK K hbe
              (try simp only [Act.put, List.setIfInBounds_toArray, List.set_cons_zero, List.set_cons_succ])
              clear BC XC HFC HOC HLC HNC
              generalize wc.heap.size = gE at *
              generalize (wc.alloc (Obj.cells #[.slice Al lv.length cl] 25)) = we at *
              refine wpAnyS_ready [8] (by kernel_rfl) (by simp) (AllReadyS.cons (by simp only [List.getElem?_toArray, List.getElem?_cons_succ, List.getElem?_cons_zero]; rfl) rfl (fun K hK => ?_) AllReadyS.nil)
              have hHl := HLE.out.1
              rw [List.length_map] at hHl
              have hl8 := hid (show H.length + ([⟨Al, lv.length, cl⟩] : List Hd).length ≤ 100000000 by have := hFl.out; rw [List.length_singleton]; omega)
              have hHl2 := hid hHl
              clear hHl
              refine hdRK.appS (fun _ => trivial) (.tmp 48) (.tmp 51) rfl rfl HOE.out (ys := [⟨Al, lv.length, cl⟩]) (c := 1) rfl SE.out hl8.out BE.out.size ?_
              intro Af2 cf2 wf hof hgf
              have BF := hid (show Below w9.heap.size w9 wf from BE.out.grown hgf BE.out.size (fun g hg => (own_blk HOE.out g hg).1))
              have KF := hid (show KT [3, 52] we wf from KT.of_grown hgf (fun g hg => by obtain ⟨_, cs, hb⟩ := own_blk HOE.out g hg; exact ⟨_, cs, hb, by decide⟩))
              have XF := hid (show Blk wf gX 52 #[.int .u64 (v : Nat)] from KF.out _ _ _ (by simp) XE.out)
              have HFF := hid (show wdRK.Own wf w9.heap.size (.slice Ab (F.length + 1) cb) (F ++ [v]) from own_kt HFE.out KF.out (by decide))
              have HOF := hid (show hdRK.Own wf w9.heap.size (.slice Af2 (H.length + 1) cf2) (H ++ [⟨Al, lv.length, cl⟩]) from hof)
              have HLF := hid (show Lies wf w9.heap.size (H ++ [⟨Al, lv.length, cl⟩]) (F.map listN ++ [lv]) from (HLE.out.push HNE.out hLi.out).kept (fun g t cs ht hb => KF.out g t cs (by simp at ht; simp [ht]) hb))
              refine hK.out _ _ ⟨BF.out, XF.out⟩ ?_
              clear hK K hof hgf BE XE SE HFE HOE HLE HNE KF
              (try simp only [Act.put, List.setIfInBounds_toArray, List.set_cons_zero, List.set_cons_succ])
              have hHeld := And.intro BF.out XF.out
              refine wpAnyS_pure 9 (v := ?_) (fun _ => trivial) (by simp only [List.getElem?_toArray, List.getElem?_cons_succ, List.getElem?_cons_zero]; rfl) (by kernel_rfl) (fun _ _ _ _ _ h => h) ⟨rfl, (by intro c h; cases h), ?_⟩ hHeld ?_
              rotate_left
              focus (intro wS hSw; (try replace hSw := HSF.out wS hSw); (try dsimp only at hSw); go_simp; (try with_reducible rfl))
              (try simp only [Act.put, List.setIfInBounds_toArray, List.set_cons_zero, List.set_cons_succ])
              refine wpAnyS_pure 10 (v := ?_) (fun _ => trivial) (by simp only [List.getElem?_toArray, List.getElem?_cons_succ, List.getElem?_cons_zero]; rfl) (by kernel_rfl) (fun _ _ _ _ _ h => h) ⟨rfl, (by intro c h; cases h), ?_⟩ hHeld ?_
              rotate_left
              focus (intro wS hSw; (try replace hSw := HSF.out wS hSw); (try dsimp only at hSw); go_simp; (try with_reducible rfl))
              (try simp only [Act.put, List.setIfInBounds_toArray, List.set_cons_zero, List.set_cons_succ])
              refine wpAnyS_done (by kernel_rfl) ?_
              clear hHeld HSF
              go_wp2_with fail
              go_roundw
              case rel => exact ⟨k + 1, H ++ [⟨Al, lv.length, cl⟩], by omega, by go_num, by rw [hst2.out]; exact HFF.out, HOF.out, by rw [hst2.out, hmap.out]; exact HLF.out, BF.out⟩
              case measure => simp [intOf]; omega
        · obtain rfl : k = ws.length := by omega
          obtain ⟨A8, c8, hv8⟩ := HO.out.form
          subst hv8
          have hHl := hid (show H.length = (minF E ws).length by have := HLi.out.1; rw [List.take_length, List.length_map] at this; exact this)
          have hslH := hid (show SlR wr wr.heap.size A8 H from by
            obtain ⟨A7, c7, e7, _, _, s7⟩ := HO.out.slr (fun _ _ => trivial)
            injection e7 with e7
            rw [e7]
            exact s7)
          clear hB
          go_wp2_with fail
          go_ret2
          exact ⟨ws, A8, c8, HWS.out, by rw [← hHl.out]; rfl, by have := HLi.out.slr hslH.out (Nat.le_refl _); rw [List.take_length] at this; exact this, HBw.out.trans (HB.out.mono HBw.out.size)⟩
end Go.Proofs.YtbbogflibekgfaaDoor
