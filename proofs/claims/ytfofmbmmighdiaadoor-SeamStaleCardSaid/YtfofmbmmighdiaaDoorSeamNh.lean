
/- Seam: the least residue; two desks and a network are made. -/
import Derived.Test.YtfofmbmmighdiaaDoorSeamNg
import Derived.Test.YtfofmbmmighdiaaDoorSeamNr
import Derived.Test.YtfofmbmmighdiaaDoorSeamN
import Derived.Test.YtfofmbmmighdiaaDoorSeamQ
import Derived.Maps.AppendAt
set_option linter.unusedSimpArgs false
set_option linter.unusedVariables false
namespace Go.Proofs.YtfofmbmmighdiaaDoor
open Go.RowKit Go.IntWalk

theorem and_one (x : Int) : bits .and .i64 x 1 = 0 ∨ bits .and .i64 x 1 = 1 := by
  have h : (BitVec.ofInt 64 x &&& BitVec.ofInt 64 1).toNat = 0 ∨ (BitVec.ofInt 64 x &&& BitVec.ofInt 64 1).toNat = 1 := by
    rw [BitVec.toNat_and, show (BitVec.ofInt 64 1).toNat = 1 by decide, Nat.and_one_is_mod]
    omega
  have e : bits .and .i64 x 1 = IntKind.i64.wrap ((BitVec.ofInt 64 x &&& BitVec.ofInt 64 1).toNat : Int) := rfl
  rw [e]
  rcases h with h | h <;> rw [h]
  · exact .inl (by decide)
  · exact .inr (by decide)
def modI (n m : Int) : Int := if m < 1 then 0 else if n.tmod m < 0 then n.tmod m + m else n.tmod m
theorem modI_in {n m : Int} (h : 1 ≤ m) : 0 ≤ modI n m ∧ modI n m < m := by
  have a := Int.tmod_lt_of_pos n (show 0 < m by omega)
  have b := Int.lt_tmod_of_pos n (show 0 < m by omega)
  unfold modI
  rw [if_neg (by omega)]
  split <;> omega
theorem modI_no {n m : Int} (h : m < 1) : modI n m = 0 := by unfold modI; rw [if_pos h]
theorem mod_any (n m : Int) (hm : m ≤ 1000000) (w : World) : Calls Tryd.prog 38 #[.int .i64 n, .int .i64 m] w fun e w' => e = .returned (.int .i64 (modI n m)) ∧ w = w' := by
  by_cases h1 : m < 1
  · rw [modI_no h1]
    go_enter Tryd.func38, Tryd.ntmps38
    go_wp2_with fail
    go_ret
    exact ⟨rfl, rfl⟩
  · have a := Int.tmod_lt_of_pos n (show 0 < m by omega)
    have b := Int.lt_tmod_of_pos n (show 0 < m by omega)
    have hne : (m == 0) = false := by simp; omega
    have hne' : m ≠ 0 := by omega
    have hne2 : (m == -1) = false := by simp; omega
    have hne3 : m ≠ -1 := by omega
    have hr := hid (show modI n m = if n.tmod m < 0 then n.tmod m + m else n.tmod m by unfold modI; rw [if_neg h1])
    by_cases h2 : n.tmod m < 0
    · have hr2 := hid (show modI n m = n.tmod m + m by rw [hr.out, if_pos h2])
      clear hr
      go_enter Tryd.func38, Tryd.ntmps38
      go_wp2_with fail
      go_ret
      exact ⟨ret_int hr2.out.symm, rfl⟩
    · have hr2 := hid (show modI n m = n.tmod m by rw [hr.out, if_neg h2])
      clear hr
      go_enter Tryd.func38, Tryd.ntmps38
      go_wp2_with fail
      go_ret
      exact ⟨ret_int hr2.out.symm, rfl⟩
theorem infoB1 : (Tryd.prog.info? 4).map (fun i => (i.zero, i.size, i.bytes)) = some (some (.bool false), 1, 1) := by kernel_rfl
theorem wp_appBo {ops : Array Oper} {rest : List Oper} {o : Oper} {a : Act} {Q : Exit → Act → World → Prop} (w : World) (hgd : o.guard = none) (s x : Operand) (ho : o.op = .call { callee := .builtin .append, args := #[s, x], argTypes := #[22, 22] })
    (base : Nat) (v : Value) (l : List Bool) (hs : a.eval s = v) (hown : w.ownsRow base 4 1 v l.length (l.map Value.bool)) (ad : Addr) (c : Nat) (ys : List Bool) (hx : a.eval x = .slice (some ad) ys.length c)
    (hcell : ∀ (j : Nat) (u : Value), (ys.map Value.bool)[j]? = some u → w.cell? (ad.add j) = some u) (hlen : l.length + ys.length ≤ 1000000) (hbase : base ≤ w.heap.size)
    (h : ∀ v' w', w'.ownsRow base 4 1 v' (l ++ ys).length ((l ++ ys).map Value.bool) → w.grownBy w' v.ownBlock → (v'.ownBlock = v.ownBlock ∨ v'.ownBlock = some w.heap.size) → wpList Tryd.prog ops Q rest (a.put o.dst v') w') : wpList Tryd.prog ops Q (o :: rest) a w := by
  obtain ⟨i0, hi, hz0, hz1, hz2⟩ := info_parts infoB1
  refine wpList_append_own_at w hgd s x 22 ho base 4 i0 _ 1 1 Tryd.underlying22 hi hz0 hz1 hz2 rfl (by omega) v l.length _ hs hown ad ys.length c (ys.map Value.bool) hx (by simp) hcell ?_ (by unfold maxLen; omega) (by omega) hbase ?_
  · intro u hu
    obtain ⟨y, _, rfl⟩ := List.mem_map.1 hu
    rfl
  · intro v' w' h1 h2 _ h4
    refine h v' w' ?_ h2 h4
    rw [List.length_append, List.map_append]
    exact h1
theorem own_slb {w : World} {base B : Nat} {v : Value} {l : List Bool} (h : w.ownsRow base 4 1 v l.length (l.map Value.bool)) (hB : w.heap.size ≤ B) : ∃ A c, v = .slice A l.length c ∧ l.length ≤ c ∧ c ≤ maxLen ∧ SlR w B A l := by
  rcases h.2 with ⟨rfl, h0⟩ | ⟨g, cap, cur, rfl, hg, hh, hc, hm, hs, ht⟩
  · have : l = [] := List.eq_nil_of_length_eq_zero h0
    subst this
    exact ⟨none, 0, rfl, by simp, by simp [maxLen], SlR.nil⟩
  · refine ⟨some ⟨g, 0, none⟩, cap, rfl, hc, hm, fun k x hx => ⟨g, 0, [.bool x], rfl, Nat.lt_of_lt_of_le (Blk.lt (cs := cur) hh) hB, rfl, fun j u hu => ?_, rfl⟩⟩
    have hk : k < l.length := by
      rcases Nat.lt_or_ge k l.length with h | h
      · exact h
      · rw [List.getElem?_eq_none h] at hx; cases hx
    match j, hu with
    | 0, hu =>
      simp only [List.getElem?_cons_zero, Option.some.injEq] at hu
      subst hu
      rw [Blk.cell (cs := cur) hh]
      have h1 : (l.map Value.bool)[k]? = some (.bool x) := by rw [List.getElem?_map, hx]; rfl
      rw [← ht, List.getElem?_take_of_lt (by omega), Array.getElem?_toList] at h1
      simpa [Rep.size] using h1
    | j + 1, hu => simp at hu

/-- Behind a pair: two desks and a network, wherever they lie. -/
def PairR (w0 : World) (px : Nat) (ra rb : List Rob) (F : List Pk) (sp : Int) (wx : World) : Prop := ∃ gd nn na nb xa xb xn va vb vn, Pr w0 px gd nn na nb xa xb xn va vb vn ra rb F sp wx
def rob0 (x : Bool) : Rob := (if x then 1 else 0, 0, false)
def rowA (mine : List Bool) : List Rob := mine.map rob0
def rowB (mine : List Bool) : List Rob := (mine.map (!·)).map rob0
theorem getR_map (l : List Bool) {i : Int} (h0 : 0 ≤ i) (h1 : i < l.length) : ∃ x, l[i.toNat]? = some x ∧ getR (l.map rob0) i = rob0 x := by
  obtain ⟨k, rfl⟩ : ∃ k : Nat, i = k := ⟨i.toNat, by omega⟩
  have hk : k < l.length := by omega
  refine ⟨l[k], by simp [hk], ?_⟩
  rw [getR_yes (by simpa using hk)]
  simp
theorem inv_begin (mine : List Bool) : Inv 0 mine.length (rowA mine) (rowB mine) [] 0 := by
  have ok : ∀ l : List Bool, ∀ r ∈ l.map rob0, RobOK 0 r := by
    intro l r hr
    obtain ⟨x, _, rfl⟩ := List.mem_map.1 hr
    cases x
    · exact ⟨by simp [rob0], by simp [rob0], by simp [rob0]⟩
    · exact ⟨by simp [rob0], by simp [rob0], by simp [rob0]⟩
  refine ⟨⟨by simp [rowA], by simp [rowB], ok _, ok _, fun i h0 h1 => ?_⟩, by simp, by simp, .inl rfl⟩
  obtain ⟨x, hx, ex⟩ := getR_map mine h0 h1
  obtain ⟨y, hy, ey⟩ := getR_map (mine.map (!·)) h0 (by simpa using h1)
  have hxy : y = !x := by
    rw [List.getElem?_map, hx] at hy
    simpa using hy.symm
  unfold rowA rowB
  rw [ex, ey, hxy]
  cases x
  · right; left; simp [rob0]
  · left; left; simp [rob0]
set_option maxRecDepth 100000 in
set_option maxHeartbeats 2000000 in
theorem begin_any (A : Option Addr) (c : Nat) (mine : List Bool) (w : World) (hl : mine.length ≤ 200) (hs : SlR w w.heap.size A mine) :
    Calls Tryd.prog 31 #[.slice A mine.length c] w fun e w' => ∃ px, e = .returned (.pointer (some ⟨px, 0, none⟩)) ∧ PairR w px (rowA mine) (rowB mine) [] 0 w' := by
  go_enter Tryd.func31, Tryd.ntmps31
  go_wp2_with fail
  go_loopw [3, 4] (fun v i wr => ∃ k : Nat, k ≤ mine.length ∧ i = .int .i64 k ∧ wr.ownsRow w.heap.size 4 1 v ((mine.take k).map (!·)).length (((mine.take k).map (!·)).map Value.bool) ∧ Below w.heap.size w wr) (fun _ i _ => mine.length - (intOf i).toNat)
  case atStart => exact ⟨0, by omega, rfl, ⟨rfl, .inl ⟨rfl, rfl⟩⟩, Below.refl _ _⟩
  case round =>
    obtain ⟨k, hk, rfl, hown, hB⟩ := hrel
    by_cases hlt : k < mine.length
    · obtain ⟨b, off, rfl, hb, g1⟩ := (hs.below hB).bool hlt
      have hsn := hid (show (mine.take (k + 1)).map (!·) = (mine.take k).map (!·) ++ [!mine[k]] by rw [List.take_add_one, List.getElem?_eq_getElem hlt, List.map_append]; rfl)
      have hlt' : (k : Int) < mine.length := by omega
      generalize mine[k] = x at *
      have ho := hid (hown.alloc (Obj.cells #[.bool (!x)] 4))
      have hcell := hid (show ∀ (j : Nat) (u : Value), ([!x].map Value.bool)[j]? = some u → (wr.alloc (Obj.cells #[.bool (!x)] 4)).cell? ((⟨wr.heap.size, 0, none⟩ : Addr).add j) = some u by
        intro j u hu
        rw [add_at, (Blk.new wr 4 #[.bool (!x)]).cell]
        match j, hu with
        | 0, hu => simpa using hu
        | j + 1, hu => simp at hu)
      have hln := hid (show ((mine.take k).map (!·)).length + [!x].length ≤ 1000000 by simp; omega)
      have hbz := hid (show w.heap.size ≤ (wr.alloc (Obj.cells #[.bool (!x)] 4)).heap.size by have := hB.size; simp; omega)
      have hB' := hid hB
      clear hown hB
      go_wp2_with (at_builtin; refine wp_appBo _ rfl (.tmp 12) (.tmp 18) rfl w.heap.size _ _ rfl ho.out ⟨wr.heap.size, 0, none⟩ 1 [!x] rfl hcell.out hln.out hbz.out ?_; intro v1 w2 ho1 hg1 hat1)
      have H1 := hid (And.intro ho1 (((hB'.out.alloc hB'.out.size (Obj.cells #[.bool (!x)] 4)).grown hg1 hbz.out (fun j hj => (ho.out.lt j hj).1))))
      clear ho1 hg1 hat1
      go_wp2_with fail
      go_roundw
      case rel => exact ⟨k + 1, by omega, by go_num, by rw [hsn.out]; exact H1.out.1, H1.out.2⟩
      case measure => simp [intOf]; omega
    · obtain rfl : k = mine.length := by omega
      rw [List.take_length] at hown
      obtain ⟨A2, c2, rfl, h1, h2, hs2⟩ := own_slb hown (Nat.le_refl _)
      have HB := hid hB
      have hl2n : (mine.map (!·)).length = mine.length := by simp
      have hrB : rowB mine = (mine.map (!·)).map rob0 := rfl
      generalize mine.map (!·) = l2 at *
      have HS2 := hid hs2
      have hl2 : l2.length ≤ 200 := by omega
      have HRB := hid hrB
      clear hown hB hs2 hl2n hrB
      have hn0 := hid (new_any 0 A c mine wr (by unfold maxLen; omega) ((hs.below HB.out).more HB.out.size))
      rw [show newL 0 mine = some (rowA mine) by unfold newL; rw [if_pos ⟨.inl rfl, hl⟩]; rfl] at hn0
      go_wp2_with fail
      refine hn0.out.mono ?_
      clear hn0
      rintro e w3 ⟨na, va, rfl, hna, DA, hB3⟩
      have hn1 := hid (new_any 1 A2 c2 l2 w3 (by unfold maxLen; omega) ((HS2.out.below hB3).more hB3.size))
      rw [show newL 1 l2 = some (rowB mine) by unfold newL; rw [if_pos ⟨.inr rfl, hl2⟩, HRB.out]; rfl] at hn1
      have da := hid DA
      have hb3 := hid hB3
      clear DA hB3
      go_wp2_with fail
      refine hn1.out.mono ?_
      clear hn1
      rintro e w4 ⟨nb, vb, rfl, hnb, DB, hB4⟩
      have sp := hid (own_sep da.out DB (Nat.le_refl _))
      have da4 := hid (da.out.below hB4)
      have db4 := hid DB
      have B4 := hid ((HB.out.trans (hb3.out.mono HB.out.size)).trans (hB4.mono (HB.out.trans (hb3.out.mono HB.out.size)).size))
      have z3 := hid (HB.out.trans (hb3.out.mono HB.out.size)).size
      have zr := hid HB.out.size
      clear DB hB4 da hb3 hna hnb
      generalize wr.heap.size = xa at *
      generalize w3.heap.size = xb at *
      have bd5 := hid (Blk.new w4 30 #[.pointer (some ⟨na, 0, none⟩), .pointer (some ⟨nb, 0, none⟩)])
      have da5 := hid (da4.out.alloc (Obj.cells #[.pointer (some ⟨na, 0, none⟩), .pointer (some ⟨nb, 0, none⟩)] 30))
      have db5 := hid (db4.out.alloc (Obj.cells #[.pointer (some ⟨na, 0, none⟩), .pointer (some ⟨nb, 0, none⟩)] 30))
      have B5 := hid (B4.out.alloc B4.out.size (Obj.cells #[.pointer (some ⟨na, 0, none⟩), .pointer (some ⟨nb, 0, none⟩)] 30))
      have z4 := hid B4.out.size
      clear da4 db4 B4
      go_wp2_with fail
      refine (nnew_any _).mono ?_
      generalize hw5 : w4.alloc (Obj.cells #[.pointer (some ⟨na, 0, none⟩), .pointer (some ⟨nb, 0, none⟩)] 30) = w5 at *
      clear hw5
      generalize w4.heap.size = gd at *
      rintro e w6 ⟨rfl, N6, hB6⟩
      have bd6 := hid (bd5.out.below hB6 bd5.out.lt)
      have da6 := hid (da5.out.below hB6)
      have db6 := hid (db5.out.below hB6)
      have B6 := hid (B5.out.trans (hB6.mono B5.out.size))
      have z5 := hid B5.out.size
      have z6 := hid hB6.size
      have n6 := hid N6
      clear bd5 da5 db5 B5 N6 hB6
      generalize w5.heap.size = nn at *
      have P7 := hid (show Pr w w6.heap.size gd nn na nb xa xb nn va vb (.slice none 0 0) (rowA mine) (rowB mine) [] 0 (w6.alloc (Obj.cells #[.slice (some ⟨gd, 0, none⟩) 2 2, .pointer (some ⟨nn, 0, none⟩)] 66)) from
        ⟨B6.out.alloc B6.out.size _, ⟨B6.out.size, z4.out, z5.out, zr.out, z3.out, z5.out⟩, by have := z6.out; simp; omega, Blk.new _ _ _, bd6.out.alloc _, da6.out.alloc _, db6.out.alloc _, sp.out.1, sp.out.2, n6.out.alloc _⟩)
      obtain ⟨p0, p1, e0, e1⟩ := P7.out.c
      have y0 := bd6.out.cell 0; have y1 := bd6.out.cell 1; have yz := bd6.out.lt
      simp at y0 y1
      clear bd6 da6 db6 B6 n6 p0 p1 e0 e1
      go_wp2_with fail
      go_ret
      exact ⟨_, rfl, _, _, _, _, _, _, _, _, _, _, P7.out⟩
end Go.Proofs.YtfofmbmmighdiaaDoor
