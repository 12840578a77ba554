
/- Net: doubling, listing. -/
import Derived.Test.YtappgjdnfllblaaDoorLzA
import Derived.Laws.OwnMore
import Derived.Deep.AppendLies
import Derived.Deep.RegionLaw
import Derived.Lib.SliceRun
import Derived.Maps.AppendAt
import Derived.Deep.RegionWith
set_option linter.unusedSimpArgs false
set_option linter.unusedVariables false
namespace Go.Proofs.YtappgjdnfllblaaDoor
open Go.RowKit Go.IntWalk

/-- A robot as a desk knows it: phase, number, refused. -/
abbrev Rob := Int × Int × Bool
def rc : List Rob → List Value
  | [] => []
  | r :: l => .int .i64 r.1 :: .int .i64 r.2.1 :: .bool r.2.2 :: rc l
theorem rc_len (l : List Rob) : (rc l).length = l.length * 3 := by
  induction l with
  | nil => rfl
  | cons r l ih => simp [rc, ih]; omega
theorem rc_at : ∀ (l : List Rob) (i : Nat) (h : i < l.length), (rc l)[i * 3]? = some (.int .i64 l[i].1) ∧ (rc l)[i * 3 + 1]? = some (.int .i64 l[i].2.1) ∧ (rc l)[i * 3 + 2]? = some (.bool l[i].2.2)
  | r :: l, 0, _ => by simp [rc]
  | r :: l, i + 1, h => by
    have ih := rc_at l i (by simpa using h)
    rw [show (i + 1) * 3 = i * 3 + 1 + 1 + 1 by omega]
    simpa [rc] using ih
theorem rc_set : ∀ (l : List Rob) (i : Nat) (r : Rob), i < l.length → rc (l.set i r) = (((rc l).set (i * 3) (.int .i64 r.1)).set (i * 3 + 1) (.int .i64 r.2.1)).set (i * 3 + 2) (.bool r.2.2)
  | x :: l, 0, r, _ => by simp [rc]
  | x :: l, i + 1, r, h => by
    have ih := rc_set l i r (by simpa using h)
    rw [show (i + 1) * 3 = i * 3 + 1 + 1 + 1 by omega]
    simp [rc, ih]
theorem rc_app (a b : List Rob) : rc (a ++ b) = rc a ++ rc b := by
  induction a with
  | nil => rfl
  | cons r a ih => simp [rc, ih]

theorem grown_b0 {w w1 : World} {r : Option Nat} (h : Below w.heap.size w w1) : w.grownBy w1 r := ⟨h.os, h.tape, h.output, h.size, fun k hk _ => h.block k hk⟩
theorem rc_set1 : ∀ (l : List Rob) (i : Nat) (p : Int) (h : i < l.length), rc (l.set i (p, l[i].2.1, l[i].2.2)) = (rc l).set (i * 3) (.int .i64 p)
  | x :: l, 0, p, _ => by simp [rc]
  | x :: l, i + 1, p, h => by
    have ih := rc_set1 l i p (by simpa using h)
    rw [show (i + 1) * 3 = i * 3 + 1 + 1 + 1 by omega]
    simpa [rc] using ih
theorem rc_set2 : ∀ (l : List Rob) (i : Nat) (n : Int) (h : i < l.length), rc (l.set i (l[i].1, n, l[i].2.2)) = (rc l).set (i * 3 + 1) (.int .i64 n)
  | x :: l, 0, p, _ => by simp [rc]
  | x :: l, i + 1, p, h => by
    have ih := rc_set2 l i p (by simpa using h)
    rw [show (i + 1) * 3 = i * 3 + 1 + 1 + 1 by omega]
    simpa [rc] using ih
section
variable {w : World} {base b g c : Nat} {me : Int} {rs : List Rob}
theorem grown_tr {w w1 w2 : World} {r : Option Nat} (h : w.grownBy w1 r) (h2 : w1.grownBy w2 r) : w.grownBy w2 r :=
  ⟨h2.os.trans h.os, h2.tape.trans h.tape, h2.output.trans h.output, Nat.le_trans h.size h2.size, fun k hk hne => (h2.block k (Nat.lt_of_lt_of_le hk h.size) hne).trans (h.block k hk hne)⟩
end
/-- What a desk knows of a robot. -/
def getR (rs : List Rob) (i : Int) : Rob := if 0 ≤ i ∧ i < rs.length then rs.getD i.toNat (0, 0, false) else (0, 0, false)
theorem getR_yes {rs : List Rob} {i : Nat} (h : i < rs.length) : getR rs i = rs[i] := by
  unfold getR
  rw [if_pos ⟨by omega, by omega⟩]
  simp [List.getD, List.getElem?_eq_getElem h]
theorem getR_no {rs : List Rob} {i : Int} (h : i < 0 ∨ (rs.length : Int) ≤ i) : getR rs i = (0, 0, false) := by
  unfold getR; rw [if_neg (by omega)]
end Go.Proofs.YtappgjdnfllblaaDoor
namespace Go.Proofs.YtappgjdnfllblaaDoor
open Go.RowKit Go.IntWalk

def offeredL (r : Rob) (no : Int) (take : Bool) : Rob × Int × Int :=
  if no < r.2.1 then (r, -1, 0) else
  if r.2.1 < no then
    if r.1 = 1 then (r, -1, 7) else if take then ((1, no, false), 1, 0) else ((0, no, true), 2, 0)
  else if r.1 = 1 then (r, 1, 0) else if r.2.2 then (r, 2, 0) else (r, -1, 0)
def takenL (r : Rob) (no : Int) : Rob := if r.1 = 2 ∧ r.2.1 = no then (0, no, false) else r
def keptL (r : Rob) (no : Int) : Rob := if r.1 = 2 ∧ r.2.1 = no then (1, r.2.1, r.2.2) else r
theorem grown_r (w : World) (r : Option Nat) : w.grownBy w r := ⟨rfl, rfl, rfl, Nat.le_refl _, fun _ _ _ => rfl⟩
section
variable {w : World} {base b g c : Nat} {me : Int} {rs : List Rob}
end
end Go.Proofs.YtappgjdnfllblaaDoor
namespace Go.Proofs.YtappgjdnfllblaaDoor
open Go.RowKit Go.IntWalk

abbrev Pas := Int × Int × Int
abbrev pAgg (p : Pas) : Value := .agg #[.int .i64 p.1, .int .i64 p.2.1, .int .i64 p.2.2]
def againL (rs : List Rob) (i : Int) : Pas × Int :=
  if i < 0 ∨ (rs.length : Int) ≤ i then ((0, 0, 0), 4) else if (getR rs i).1 ≠ 2 then ((0, 0, 0), 7) else ((0, i, (getR rs i).2.1), 0)
def AgRes (w : World) (r : Pas × Int) (e : Ending) (w' : World) : Prop := e = .returned (.tuple #[.agg #[.int .i64 r.1.1, .int .i64 r.1.2.1, .int .i64 r.1.2.2], .int .i64 r.2]) ∧ Below w.heap.size w w'
theorem grown_s (w : World) (b i : Nat) (u : Value) : w.grownBy (w.setCell ⟨b, i, none⟩ u) (some b) :=
  ⟨rfl, rfl, rfl, by simp, fun k _ hne => Below.heap_setCell w ⟨b, i, none⟩ u k (fun e => hne (by rw [e]))⟩
theorem grown_fr {w w1 w2 : World} {r row : Option Nat} (h : w.grownBy w1 r) (h2 : w1.grownBy w2 row) (hr : ∀ k, row = some k → w.heap.size ≤ k) : w.grownBy w2 r :=
  ⟨h2.os.trans h.os, h2.tape.trans h.tape, h2.output.trans h.output, Nat.le_trans h.size h2.size, fun k hk hne => (h2.block k (Nat.lt_of_lt_of_le hk h.size) (fun e => by have := hr k e.symm; omega)).trans (h.block k hk hne)⟩
theorem rc_set12 (l : List Rob) (i : Nat) (p n : Int) (h : i < l.length) : rc (l.set i (p, n, l[i].2.2)) = ((rc l).set (i * 3) (.int .i64 p)).set (i * 3 + 1) (.int .i64 n) := by
  have h1 := rc_set1 l i p h
  have h2 := rc_set2 (l.set i (p, l[i].2.1, l[i].2.2)) i n (by simpa using h)
  simp only [List.getElem_set_self, List.set_set] at h2
  rw [h2, h1]
/-- A desk's robots, one of them anew. -/
def setR (rs : List Rob) (i : Int) (r : Rob) : List Rob := if 0 ≤ i then rs.set i.toNat r else rs
theorem setR_len (rs : List Rob) (i : Int) (r : Rob) : (setR rs i r).length = rs.length := by unfold setR; split <;> simp
theorem setR_nat (rs : List Rob) (i : Nat) (r : Rob) : setR rs i r = rs.set i r := by simp [setR]
def offerL (rs : List Rob) (i : Int) : List Rob × Pas × Int :=
  if i < 0 ∨ (rs.length : Int) ≤ i then (rs, (0, 0, 0), 4) else if (getR rs i).1 ≠ 1 then (rs, (0, 0, 0), 7) else (setR rs i (2, (getR rs i).2.1 + 1, (getR rs i).2.2), (0, i, (getR rs i).2.1 + 1), 0)
end Go.Proofs.YtappgjdnfllblaaDoor
namespace Go.Proofs.YtappgjdnfllblaaDoor
open Go.RowKit Go.IntWalk

def hearL (rs : List Rob) (p : Pas) (take : Bool) : List Rob × Pas × Bool × Int :=
  if p.2.1 < 0 ∨ (rs.length : Int) ≤ p.2.1 then (rs, (0, 0, 0), false, 4) else
  if p.1 = 0 then (setR rs p.2.1 (offeredL (getR rs p.2.1) p.2.2 take).1, if (offeredL (getR rs p.2.1) p.2.2 take).2.1 < 0 then (0, 0, 0) else ((offeredL (getR rs p.2.1) p.2.2 take).2.1, p.2.1, p.2.2), decide (0 ≤ (offeredL (getR rs p.2.1) p.2.2 take).2.1), (offeredL (getR rs p.2.1) p.2.2 take).2.2) else
  if p.1 = 1 then (setR rs p.2.1 (takenL (getR rs p.2.1) p.2.2), (0, 0, 0), false, 0) else
  if p.1 = 2 then (setR rs p.2.1 (keptL (getR rs p.2.1) p.2.2), (0, 0, 0), false, 0) else (rs, (0, 0, 0), false, 4)
theorem offeredL_ans (r : Rob) (no : Int) (take : Bool) : (offeredL r no take).2.1 = -1 ∨ (offeredL r no take).2.1 = 1 ∨ (offeredL r no take).2.1 = 2 := by
  unfold offeredL
  split
  · simp
  · split
    · split
      · simp
      · split <;> simp
    · split
      · simp
      · split <;> simp
end Go.Proofs.YtappgjdnfllblaaDoor
namespace Go.Proofs.YtappgjdnfllblaaDoor
open Go.RowKit Go.IntWalk

theorem blk_new2F (w : World) (o : Obj) (t : TypeId) (cs : Array Value) : Blk ((w.alloc o).alloc (.cells cs t)) (w.heap.size + 1) t cs := Blk.new_at (by simp)
def newL (me : Int) (mine : List Bool) : Option (List Rob) := if (me = 0 ∨ me = 1) ∧ mine.length ≤ 200 then some (mine.map fun x => (if x then 1 else 0, 0, false)) else none
theorem map_snocR (mine : List Bool) (k : Nat) (h : k < mine.length) : (mine.take (k + 1)).map (fun x => ((if x then 1 else 0, 0, false) : Rob)) = (mine.take k).map (fun x => ((if x then 1 else 0, 0, false) : Rob)) ++ [(if mine[k] then 1 else 0, 0, false)] := by
  rw [List.take_add_one, List.getElem?_eq_getElem h, List.map_append]; rfl
end Go.Proofs.YtappgjdnfllblaaDoor
namespace Go.Proofs.YtappgjdnfllblaaDoor
open Go.RowKit Go.IntWalk

/-- A packet: from, to, body. -/
abbrev Pk := Int × Int × ByteArray
def pc : List Pk → List Value
  | [] => []
  | p :: l => .int .i64 p.1 :: .int .i64 p.2.1 :: .string p.2.2 :: pc l
theorem pc_len (l : List Pk) : (pc l).length = l.length * 3 := by
  induction l with
  | nil => rfl
  | cons p l ih => simp [pc, ih]; omega
theorem pc_app (a b : List Pk) : pc (a ++ b) = pc a ++ pc b := by
  induction a with
  | nil => rfl
  | cons p l ih => simp [pc, ih]
theorem pc_at : ∀ (l : List Pk) (i : Nat) (h : i < l.length), (pc l)[i * 3]? = some (.int .i64 l[i].1) ∧ (pc l)[i * 3 + 1]? = some (.int .i64 l[i].2.1) ∧ (pc l)[i * 3 + 2]? = some (.string l[i].2.2)
  | p :: l, 0, _ => by simp [pc]
  | p :: l, i + 1, h => by
    have := pc_at l i (by simpa using h)
    rw [show (i + 1) * 3 = i * 3 + 3 by omega]
    simpa [pc] using this
theorem pc_split (l : List Pk) (i : Nat) (h : i ≤ l.length) : pc l = pc (l.take i) ++ pc (l.drop i) := by rw [← pc_app, List.take_append_drop]
theorem pc_take (l : List Pk) (i : Nat) (h : i ≤ l.length) : (pc l).take (i * 3) = pc (l.take i) := by
  rw [pc_split l i h]
  have : (pc (l.take i)).length = i * 3 := by rw [pc_len, List.length_take, Nat.min_eq_left h]
  rw [List.take_left' this]
theorem pc_drop (l : List Pk) (i : Nat) (h : i ≤ l.length) : (pc l).drop (i * 3) = pc (l.drop i) := by
  conv => lhs; rw [pc_split l i h]
  have : (pc (l.take i)).length = i * 3 := by rw [pc_len, List.length_take, Nat.min_eq_left h]
  rw [List.drop_left' this]
theorem pc_erase (l : List Pk) (i : Nat) (h : i < l.length) : pc (l.eraseIdx i) = (pc l).take (i * 3) ++ (pc l).drop ((i + 1) * 3) := by
  rw [pc_take l i (by omega), pc_drop l (i + 1) h, List.eraseIdx_eq_take_drop_succ, pc_app]

/-- A run of cells laid into a list. -/
def putL : List Value → Nat → List Value → List Value
  | c, _, [] => c
  | c, o, v :: r => putL (c.set o v) (o + 1) r
theorem putL_len : ∀ (vs c : List Value) (o : Nat), (putL c o vs).length = c.length
  | [], _, _ => rfl
  | v :: r, c, o => by rw [putL, putL_len r]; simp
theorem take_set1 (c : List Value) (o : Nat) (v : Value) (h : o < c.length) : (c.set o v).take (o + 1) = c.take o ++ [v] := by
  rw [List.take_add_one, List.getElem?_set_self h]
  congr 1
  apply List.ext_getElem?
  intro j
  by_cases hj : j < o
  · rw [List.getElem?_take_of_lt hj, List.getElem?_take_of_lt hj, List.getElem?_set_ne (by omega)]
  · rw [List.getElem?_eq_none (by simp; omega), List.getElem?_eq_none (by simp; omega)]
theorem drop_set1 (c : List Value) (o m : Nat) (v : Value) (h : o < m) : (c.set o v).drop m = c.drop m := by
  apply List.ext_getElem?
  intro j
  rw [List.getElem?_drop, List.getElem?_drop, List.getElem?_set_ne (by omega)]
theorem putL_eq : ∀ (vs c : List Value) (o : Nat), o + vs.length ≤ c.length → putL c o vs = c.take o ++ vs ++ c.drop (o + vs.length)
  | [], c, o, _ => by simp [putL]
  | v :: r, c, o, h => by
    simp only [List.length_cons] at h
    rw [putL, putL_eq r _ _ (by simp; omega), take_set1 c o v (by omega), drop_set1 c o _ v (by omega)]
    simp only [List.length_cons, List.append_assoc, List.cons_append, List.nil_append, show o + 1 + r.length = o + (r.length + 1) by omega]
theorem setCells_blk {g : Nat} {t : TypeId} : ∀ (vs : List Value) (o : Nat) (w : World) (cs : Array Value), Blk w g t cs → Blk (w.setCells g o vs) g t ⟨putL cs.toList o vs⟩
  | [], _, _, _, h => h
  | v :: r, o, w, cs, h => by
    have := setCells_blk r (o + 1) _ _ (h.set_ o v)
    rw [World.setCells, putL]
    simpa using this
theorem setCells_grown (g : Nat) : ∀ (vs : List Value) (o : Nat) (w : World), w.grownBy (w.setCells g o vs) (some g)
  | [], _, w => grown_r w _
  | v :: r, o, w => grown_tr (grown_s w g o v) (setCells_grown g r (o + 1) _)
theorem infoPk : (Tryd.prog.info? 106).map (fun i => (i.zero, i.size, i.bytes)) = some (some (.agg #[.int .i64 0, .int .i64 0, .string ⟨#[]⟩]), 3, 32) := by kernel_rfl
theorem run_clear3 (w : World) (ty : TypeId) (b o c : Nat) (hc : ∀ j, j < 3 → (w.cell? ⟨b, o + j, none⟩).isSome = true) (hf : ∀ j, j < 3 → w.frozen? ⟨b, o + j, none⟩ = false) :
    (Builtin.clear_ #[102] ty #[.slice (some ⟨b, o, none⟩) 1 c]).run Tryd.prog w = .ok (.tuple #[]) (w.setCells b o [.int .i64 0, .int .i64 0, .string ⟨#[]⟩]) := by
  have hst := run_storeCells_cells (P := Tryd.prog) b o [.int .i64 0, .int .i64 0, .string ⟨#[]⟩] 0 w (by simpa using hc) (by simpa using hf) (by intro v hv; simp at hv; rcases hv with rfl | rfl | rfl <;> rfl)
  simp only [Nat.add_zero] at hst
  have hv := Tryd.zeroValue106
  have hzc : (Builtin.zeroCells #[.int .i64 0, .int .i64 0, .string ⟨#[]⟩] 1).toList = [.int .i64 0, .int .i64 0, .string ⟨#[]⟩] := by simp [Builtin.zeroCells, List.range, List.range.loop]
  simp [Builtin.clear_, run_underlying Tryd.underlying102, hv, Value.cells, hzc, hst]
end Go.Proofs.YtappgjdnfllblaaDoor
namespace Go.Proofs.YtappgjdnfllblaaDoor
open Go.RowKit Go.IntWalk

/-- The row of packets behind a slice that the program itself made. -/
theorem pk_row {w : World} {base : Nat} {v : Value} {F : List Pk} (h : w.ownsRow base 106 3 v F.length (pc F)) : ∃ A c, v = .slice A F.length c ∧ F.length ≤ c ∧ c ≤ maxLen ∧
    (F ≠ [] → ∃ g cur, A = some ⟨g, 0, none⟩ ∧ base ≤ g ∧ g < w.heap.size ∧ Blk w g 106 cur ∧ cur.size = c * 3 ∧ cur.toList.take (F.length * 3) = pc F) := by
  rcases h.2 with ⟨hv, hn⟩ | ⟨g, cap, cur, hv, hg, hh, hc, hm, hs, ht⟩
  · have : F = [] := List.eq_nil_of_length_eq_zero hn
    subst this
    exact ⟨none, 0, hv, by simp, by simp [maxLen], fun h => absurd rfl h⟩
  · refine ⟨some ⟨g, 0, none⟩, cap, hv, hc, hm, fun _ => ⟨g, cur, rfl, hg, Blk.lt (cs := cur) hh, hh, hs, ht⟩⟩
theorem pk_cell {w : World} {g : Nat} {cur : Array Value} {F : List Pk} (hb : Blk w g 106 cur) (ht : cur.toList.take (F.length * 3) = pc F) {i : Nat} (hi : i < F.length) :
    w.cell? ⟨g, i * 3, none⟩ = some (.int .i64 F[i].1) ∧ w.cell? ⟨g, i * 3 + 1, none⟩ = some (.int .i64 F[i].2.1) ∧ w.cell? ⟨g, i * 3 + 2, none⟩ = some (.string F[i].2.2) := by
  obtain ⟨h0, h1, h2⟩ := pc_at F i hi
  rw [← ht, List.getElem?_take_of_lt (by omega)] at h0 h1 h2
  rw [Array.getElem?_toList] at h0 h1 h2
  exact ⟨(hb.cell _).trans h0, (hb.cell _).trans h1, (hb.cell _).trans h2⟩
theorem ret_sl {A : Option Addr} {n m c : Nat} (h : n = m) : Ending.returned (.slice A n c) = .returned (.slice A m c) := by rw [h]
theorem add_z (g o j : Nat) : (⟨g, o, none⟩ : Addr).add j = ⟨g, o + j, none⟩ := by unfold Addr.add; split <;> simp_all
theorem pc_one : ∀ (F : List Pk) (u : Value), u ∈ pc F → u.oneCell' = true
  | [], u, hu => by simp [pc] at hu
  | p :: l, u, hu => by
    simp only [pc, List.mem_cons] at hu
    rcases hu with rfl | rfl | rfl | hu
    · rfl
    · rfl
    · rfl
    · exact pc_one l u hu
set_option maxRecDepth 100000 in
set_option maxHeartbeats 4000000 in
theorem delete_any (base g cap : Nat) (F : List Pk) (i : Nat) (hi : i < F.length) (w : World) (h : w.ownsRow base 106 3 (.slice (some ⟨g, 0, none⟩) F.length cap) F.length (pc F)) :
    Calls Tryd.prog 87 #[.slice (some ⟨g, 0, none⟩) F.length cap, .int .i64 (i : Int), .int .i64 ((i : Int) + 1)] w fun e w' => e = .returned (.slice (some ⟨g, 0, none⟩) (F.length - 1) cap) ∧
      w'.ownsRow base 106 3 (.slice (some ⟨g, 0, none⟩) (F.length - 1) cap) (F.eraseIdx i).length (pc (F.eraseIdx i)) ∧ w.grownBy w' (some g) := by
  obtain ⟨A0, c0, hv, hcap, hmax, hrow⟩ := pk_row h
  obtain ⟨g0, cur, rfl, hbg, hlt, hb, hsz, htk⟩ := hrow (by intro e; subst e; simp at hi)
  simp only [Value.slice.injEq, Option.some.injEq, Addr.mk.injEq] at hv
  obtain ⟨⟨rfl, _⟩, _, rfl⟩ := hv
  obtain ⟨i0, hi0, hz0, hz1, hz2⟩ := info_parts infoPk
  obtain ⟨n, hn⟩ : ∃ n, n = F.length := ⟨_, rfl⟩
  obtain ⟨news, hnews⟩ : ∃ news, news = (pc F).drop ((i + 1) * 3) := ⟨_, rfl⟩
  have hlen : news.length = (n - (i + 1)) * 3 := by rw [hnews, List.length_drop, pc_len, ← hn]; omega
  have hget : ∀ t u, news[t]? = some u → w.cell? ⟨g, (i + 1) * 3 + t, none⟩ = some u := by
    intro t u hu
    have htl : t < news.length := (List.getElem?_eq_some_iff.1 hu).1
    rw [hnews, List.getElem?_drop, ← htk, List.getElem?_take_of_lt (by omega), Array.getElem?_toList] at hu
    exact (hb.cell _).trans hu
  obtain ⟨A, hA, hsrc⟩ : ∃ A : Addr, (if cap = i + 1 then some (⟨g, 0, none⟩ : Addr) else some ⟨g, (i + 1) * 3, none⟩) = some A ∧ Hid (∀ t u, news[t]? = some u → w.drew.cell? (A.add t) = some u) := by
    by_cases hc : cap = i + 1
    · refine ⟨⟨g, 0, none⟩, by simp [hc], fun t u hu => ?_⟩
      have h0 : news.length = 0 := by rw [hlen]; omega
      rw [List.length_eq_zero_iff.1 h0] at hu
      simp at hu
    · refine ⟨⟨g, (i + 1) * 3, none⟩, by simp [hc], fun t u hu => ?_⟩
      rw [add_z]
      exact hget t u hu
  have hcs : ∀ t, t < cap * 3 → (w.cell? ⟨g, t, none⟩).isSome = true := by
    intro t ht
    rw [hb.cell, Array.getElem?_eq_getElem (by omega)]; rfl
  have s1 : Hid (news.length = (n - (i + 1)) * 3) := hlen
  have s2 : Hid (∀ u ∈ news, u.oneCell' = true) := by
    intro u hu
    rw [hnews] at hu
    exact pc_one F u (List.mem_of_mem_drop hu)
  have s3 : Hid (∀ t, t < news.length → (w.drew.cell? ⟨g, 0 + i * 3 + t, none⟩).isSome = true ∧ w.drew.frozen? ⟨g, 0 + i * 3 + t, none⟩ = false) := by
    intro t ht
    exact ⟨hcs _ (by omega), hb.frozen _⟩
  obtain ⟨W1, hW1⟩ : ∃ W1, W1 = w.drew.setCells g (i * 3) news := ⟨_, rfl⟩
  have hb1 : Blk W1 g 106 ⟨putL cur.toList (i * 3) news⟩ := by rw [hW1]; exact setCells_blk news _ _ _ hb
  have hsz1 : (putL cur.toList (i * 3) news).length = cap * 3 := by rw [putL_len]; simpa using hsz
  have hcl : ∀ ty, (Builtin.clear_ #[102] ty #[.slice (some ⟨g, (n - 1) * 3, none⟩) 1 (cap - (n - 1))]).run Tryd.prog W1 = .ok (.tuple #[]) (W1.setCells g ((n - 1) * 3) [.int .i64 0, .int .i64 0, .string ⟨#[]⟩]) :=
    fun ty => run_clear3 W1 ty g ((n - 1) * 3) _ (fun j hj => by rw [hb1.cell, Array.getElem?_eq_getElem (by simp; omega)]; rfl) (fun j hj => hb1.frozen _)
  have hcl : ∀ ty, (Builtin.clear_ #[102] ty #[.slice (some ⟨g, (i + (n - (i + 1))) * 3, none⟩) (n - (i + (n - (i + 1)))) (cap - (i + (n - (i + 1))))]).run Tryd.prog W1 = .ok (.tuple #[]) (W1.setCells g ((n - 1) * 3) [.int .i64 0, .int .i64 0, .string ⟨#[]⟩]) := by
    intro ty
    rw [show i + (n - (i + 1)) = n - 1 by omega, show n - (n - 1) = 1 by omega]
    exact hcl ty
  have hfin : Hid ((W1.setCells g ((n - 1) * 3) [.int .i64 0, .int .i64 0, .string ⟨#[]⟩]).ownsRow base 106 3 (.slice (some ⟨g, 0, none⟩) (F.length - 1) cap) (F.eraseIdx i).length (pc (F.eraseIdx i)) ∧ w.grownBy (W1.setCells g ((n - 1) * 3) [.int .i64 0, .int .i64 0, .string ⟨#[]⟩]) (some g)) := by
    refine ⟨⟨by rw [pc_len], .inr ⟨g, cap, _, by rw [List.length_eraseIdx_of_lt hi], hbg, setCells_blk _ _ _ _ hb1, by rw [List.length_eraseIdx_of_lt hi]; omega, hmax, by simp [putL_len]; simpa using hsz, ?_⟩⟩, ?_⟩
    · rw [List.length_eraseIdx_of_lt hi, ← hn, putL_eq _ _ _ (by simp [putL_len]; omega), List.append_assoc, List.take_left' (by simp [putL_len]; omega)]
      rw [putL_eq _ _ _ (by simp; omega), List.take_append_of_le_length (by simp; omega), pc_erase F i hi, ← hnews]
      rw [List.take_of_length_le (by simp; omega)]
      congr 1
      rw [← htk, List.take_take, Nat.min_eq_left (by omega)]
    · rw [hW1]
      exact grown_tr (grown_tr (grown_b0 ((Below.refl _ _).drew)) (setCells_grown g news _ w.drew)) (setCells_grown g _ _ _)
  have hW : Hid (W1 = w.drew.setCells g (0 + i * 3) news) := by rw [hW1, Nat.zero_add]; exact rfl
  have hic : i ≤ cap := by omega
  have hjc : i + 1 ≤ cap := by omega
  have hni : i < F.length := by omega
  have hnc : F.length ≤ cap := by omega
  subst hn
  unfold maxLen at hmax
  have hne : ((i : Int) == (i : Int) + 1) = false := by simp; omega
  have hu0 : (0 : Int) ≤ (i : Int) + 1 := by omega
  have hu1 : (i : Int) + 1 ≤ (F.length : Int) := by omega
  clear hW1 hb1 hsz1 hget hnews hlen h hb htk hrow hcs hsz hi hcap
  go_enter Tryd.func87, Tryd.ntmps87
  go_wp2_with fail
  go_region_law (refine step_append_room rfl (.tmp 22) (.tmp 25) 102 rfl 106 i0 3 Tryd.underlying102 hi0 hz1 g 0 i cap (by simp [Act.eval, Act.put]) A (F.length - (i + 1)) (cap - (i + 1)) news (by simp [Act.eval, Act.put]) s1.out hsrc.out s2.out (by omega) s3.out ?_; rw [← hW.out])
  go_wp2_with fail
  go_ret
  exact ⟨ret_sl (by omega), hfin.out⟩
end Go.Proofs.YtappgjdnfllblaaDoor
namespace Go.Proofs.YtappgjdnfllblaaDoor
open Go.RowKit Go.IntWalk

section
variable {ops : Array Oper} {rest : List Oper} {o : Oper} {a : Act} {Q : Exit → Act → World → Prop}
end
theorem add_at (g j : Nat) : (⟨g, 0, none⟩ : Addr).add j = ⟨g, j, none⟩ := by unfold Addr.add; split <;> simp_all
end Go.Proofs.YtappgjdnfllblaaDoor
namespace Go.Proofs.YtappgjdnfllblaaDoor
open Go.RowKit Go.IntWalk

/-- What has changed lies in S. -/
structure Chg (w w' : World) (S : Nat → Prop) : Prop where
  os : w'.os = w.os
  tape : w'.tape = w.tape
  output : w'.output = w.output
  size : w.heap.size ≤ w'.heap.size
  block : ∀ k, k < w.heap.size → ¬ S k → w'.heap[k]? = w.heap[k]?
theorem Chg.of_below {w w' : World} (h : Below w.heap.size w w') (S : Nat → Prop) : Chg w w' S := ⟨h.os, h.tape, h.output, h.size, fun k hk _ => h.block k hk⟩
theorem Chg.of_grown {w w' : World} {r : Option Nat} (h : w.grownBy w' r) {S : Nat → Prop} (hS : ∀ k, some k = r → S k) : Chg w w' S := ⟨h.os, h.tape, h.output, h.size, fun k hk hn => h.block k hk (fun e => hn (hS k e))⟩
theorem Chg.trans {w w1 w2 : World} {S S' : Nat → Prop} (h : Chg w w1 S) (h' : Chg w1 w2 S') (hS : ∀ k, k < w.heap.size → S' k → S k) : Chg w w2 S :=
  ⟨h'.os.trans h.os, h'.tape.trans h.tape, h'.output.trans h.output, Nat.le_trans h.size h'.size, fun k hk hn => (h'.block k (Nat.lt_of_lt_of_le hk h.size) (fun e => hn (hS k hk e))).trans (h.block k hk hn)⟩
theorem Chg.blk {w w' : World} {S : Nat → Prop} (h : Chg w w' S) {g : Nat} {t : TypeId} {cs : Array Value} (hb : Blk w g t cs) (hS : ¬ S g) : Blk w' g t cs := (h.block g hb.lt hS).trans hb
theorem Chg.row {w w' : World} {S : Nat → Prop} (h : Chg w w' S) {base : Nat} {e : TypeId} {s n : Nat} {v : Value} {xs : List Value} (ho : w.ownsRow base e s v n xs) (hS : ∀ g, v.ownBlock = some g → ¬ S g) : w'.ownsRow base e s v n xs := by
  refine ⟨ho.1, ?_⟩
  rcases ho.2 with h1 | ⟨g, cap, cur, rfl, h2, h3, h4⟩
  · exact .inl h1
  · exact .inr ⟨g, cap, cur, rfl, h2, h.blk (cs := cur) h3 (hS g rfl), h4⟩
theorem Chg.low {w0 w w' : World} {S : Nat → Prop} (h : Chg w w' S) (hb : Below w0.heap.size w0 w) (hS : ∀ k, S k → w0.heap.size ≤ k) : Below w0.heap.size w0 w' :=
  hb.trans ⟨h.os, h.tape, h.output, h.size, fun k hk => h.block k (Nat.lt_of_lt_of_le hk hb.size) (fun e => by have := hS k e; omega)⟩

/-- A network: block nn, its packets' slice v. -/
structure Nt (w : World) (base nn : Nat) (v : Value) (F : List Pk) (sp : Int) : Prop where
  d : Blk w nn 104 #[v, .int .i64 sp]
  r : w.ownsRow base 106 3 v F.length (pc F)
/-- What a network's call may write. -/
def NetS (nn : Nat) (v : Value) (k : Nat) : Prop := k = nn ∨ v.ownBlock = some k
def NtRes (w : World) (base nn : Nat) (v : Value) (F : List Pk) (sp : Int) (r : Value → Prop) (e : Ending) (w' : World) : Prop :=
  ∃ x v', e = .returned x ∧ r x ∧ Nt w' base nn v' F sp ∧ Chg w w' (NetS nn v) ∧ ∀ g, v'.ownBlock = some g → v.ownBlock = some g ∨ w.heap.size ≤ g
section
variable {w w' : World} {base nn : Nat} {v : Value} {F : List Pk} {sp : Int}
theorem Nt.below (h : Nt w base nn v F sp) (hb : Below w.heap.size w w') : Nt w' base nn v F sp :=
  ⟨h.d.below hb h.d.lt, (Chg.of_below hb (fun _ => False)).row h.r (fun _ _ h => h)⟩
theorem Nt.alloc (h : Nt w base nn v F sp) (o : Obj) : Nt (w.alloc o) base nn v F sp := h.below (by (repeat (first | exact Below.refl _ _ | assumption | refine below_drewN ?_ _ | refine Below.drew ?_ | refine Below.alloc ?_ (by (try simp); (try omega)) _ | refine Below.setCell ?_ (by (try simp); (try omega)) _)))
theorem Nt.vn (h : Nt w base nn v F sp) : v.ownBlock ≠ some nn := own_blk_ne h.r h.d (by decide)
theorem nt2 (h : Nt w base nn v F sp) : w.cell? ⟨nn, 0, none⟩ = some v ∧ w.cell? ⟨nn, 1, none⟩ = some (.int .i64 sp) := ⟨h.d.cell 0, h.d.cell 1⟩
theorem Nt.same (h : Nt w base nn v F sp) {x : Value} {r : Value → Prop} (hr : r x) (hb : Below w.heap.size w w') : NtRes w base nn v F sp r (.returned x) w' := ⟨x, v, rfl, hr, h.below hb, Chg.of_below hb _, fun _ h => .inl h⟩
theorem Nt.fresh (h : Nt w base nn v F sp) {k : Nat} (hk : NetS nn v k) : k < w.heap.size := by
  rcases hk with rfl | hk
  · exact h.d.lt
  · exact (h.r.lt k hk).2
theorem Nt.split (h : Nt w base nn v F sp) (s : Int) : Nt (w.setCell ⟨nn, 1, none⟩ (.int .i64 s)) base nn v F s ∧ Chg w (w.setCell ⟨nn, 1, none⟩ (.int .i64 s)) (NetS nn v) := by
  have hg := grown_s w nn 1 (.int .i64 s)
  refine ⟨⟨by simpa using h.d.set_ 1 (.int .i64 s), h.r.kept hg (.inr h.vn)⟩, Chg.of_grown hg (fun k e => .inl (by injection e))⟩
end
theorem wp_appPk {ops : Array Oper} {rest : List Oper} {o : Oper} {a : Act} {Q : Exit → Act → World → Prop} (w : World) (hgd : o.guard = none) (s x : Operand) (ho : o.op = .call { callee := .builtin .append, args := #[s, x], argTypes := #[102, 102] })
    (base : Nat) (v : Value) (l : List Pk) (hs : a.eval s = v) (hown : w.ownsRow base 106 3 v l.length (pc l)) (ad : Addr) (c : Nat) (ys : List Pk) (hx : a.eval x = .slice (some ad) ys.length c)
    (hcell : ∀ (j : Nat) (u : Value), (pc ys)[j]? = some u → w.cell? (ad.add j) = some u) (hlen : l.length + ys.length ≤ 1000000) (hbase : base ≤ w.heap.size)
    (h : ∀ v' w', w'.ownsRow base 106 3 v' (l ++ ys).length (pc (l ++ ys)) → w.grownBy w' v.ownBlock → (v'.ownBlock = v.ownBlock ∨ v'.ownBlock = some w.heap.size) → wpList Tryd.prog ops Q rest (a.put o.dst v') w') : wpList Tryd.prog ops Q (o :: rest) a w := by
  obtain ⟨i0, hi, hz0, hz1, hz2⟩ := info_parts infoPk
  refine wpList_append_own_at w hgd s x 102 ho base 106 i0 _ 3 32 Tryd.underlying102 hi hz0 hz1 hz2 rfl (by omega) v l.length _ hs hown ad ys.length c (pc ys) hx (by rw [pc_len]) hcell (pc_one ys) (by unfold maxLen; omega) (by omega) hbase ?_
  intro v' w' h1 h2 _ h4
  refine h v' w' ?_ h2 h4
  rw [List.length_append, pc_app]
  exact h1
theorem pk_news {w : World} {B : Nat} {p : Pk} {t : TypeId} (hb : Blk w B t #[.int .i64 p.1, .int .i64 p.2.1, .string p.2.2]) : ∀ (j : Nat) (u : Value), (pc [p])[j]? = some u → w.cell? ((⟨B, 0, none⟩ : Addr).add j) = some u := by
  intro j u hu
  rw [add_at, hb.cell]
  match j, hu with
  | 0, hu => simpa [pc] using hu
  | 1, hu => simpa [pc] using hu
  | 2, hu => simpa [pc] using hu
  | j + 3, hu => simp [pc] at hu
theorem nt_app {W w1 : World} {base nn : Nat} {v v1 : Value} {F : List Pk} {sp : Int} {p : Pk} (hN : Nt W base nn v F sp)
    (ho : w1.ownsRow base 106 3 v1 (F ++ [p]).length (pc (F ++ [p]))) (hgr : W.grownBy w1 v.ownBlock) (hat : v1.ownBlock = v.ownBlock ∨ v1.ownBlock = some W.heap.size) :
    Nt (w1.setCell ⟨nn, 0, none⟩ v1) base nn v1 (F ++ [p]) sp ∧ Chg W (w1.setCell ⟨nn, 0, none⟩ v1) (NetS nn v) ∧ ∀ g, v1.ownBlock = some g → v.ownBlock = some g ∨ W.heap.size ≤ g := by
  have hlt := hN.d.lt
  have hne : v1.ownBlock ≠ some nn := by
    rcases hat with h | h
    · rw [h]; exact hN.vn
    · rw [h]; intro e; injection e with e; omega
  refine ⟨⟨?_, ho.kept (grown_s w1 nn 0 _) (.inr hne)⟩, ?_, fun g hg => hat.elim (fun h => .inl (h ▸ hg)) (fun h => .inr (by rw [h] at hg; injection hg with e; omega))⟩
  · have := (Blk.grown hN.d hgr (fun e => hN.vn e.symm)).set_ 0 v1
    simpa using this
  · exact Chg.trans (Chg.of_grown hgr (S := NetS nn v) (fun k e => .inr e.symm)) (Chg.of_grown (grown_s w1 nn 0 v1) (S := fun k => k = nn) (fun k e => by injection e)) (fun k _ e => .inl e)

/-- The ends of a packet are the two controllers. -/
def Ends (a b : Int) : Prop := (a = 0 ∧ b = 1) ∨ (a = 1 ∧ b = 0)
set_option maxRecDepth 100000 in
theorem end_yes (a : Int) (h : a = 0 ∨ a = 1) (w : World) : Calls Tryd.prog 74 #[.int .i64 a] w fun e w' => e = .returned (.bool true) ∧ w = w' := by
  rcases h with rfl | rfl
  all_goals
    go_enter Tryd.func74, Tryd.ntmps74
    go_wp2_with fail
    go_ret
    exact ⟨rfl, rfl⟩
set_option maxRecDepth 100000 in
theorem nnew_any (w : World) : Calls Tryd.prog 69 #[] w fun e w' => e = .returned (.pointer (some ⟨w.heap.size, 0, none⟩)) ∧ Nt w' w.heap.size w.heap.size (.slice none 0 0) [] 0 ∧ Below w.heap.size w w' := by
  have hN := hid (show Nt (w.alloc (Obj.cells #[.slice none 0 0, .int .i64 0] 104)) w.heap.size w.heap.size (.slice none 0 0) [] 0 from ⟨Blk.new _ _ _, ⟨rfl, .inl ⟨rfl, rfl⟩⟩⟩)
  have hB := hid (show Below w.heap.size w (w.alloc (Obj.cells #[.slice none 0 0, .int .i64 0] 104)) by (repeat (first | exact Below.refl _ _ | assumption | refine below_drewN ?_ _ | refine Below.drew ?_ | refine Below.alloc ?_ (by (try simp); (try omega)) _ | refine Below.setCell ?_ (by (try simp); (try omega)) _)))
  go_enter Tryd.func69, Tryd.ntmps69
  go_wp2_with fail
  go_ret
  exact ⟨rfl, hN.out, hB.out⟩
set_option maxRecDepth 100000 in
theorem count_any {w : World} {base nn : Nat} {v : Value} {F : List Pk} {sp : Int} (h : Nt w base nn v F sp) : Calls Tryd.prog 42 #[.pointer (some ⟨nn, 0, none⟩)] w fun e w' => e = .returned (.int .i64 F.length) ∧ w = w' := by
  obtain ⟨A, c, rfl, _, _, _⟩ := pk_row h.r
  obtain ⟨d0, d1⟩ := nt2 h
  have hz := h.d.lt
  clear h
  go_enter Tryd.func42, Tryd.ntmps42
  go_wp2_with fail
  go_ret
  exact ⟨rfl, rfl⟩
set_option maxRecDepth 100000 in
theorem nsplit_any {w : World} {base nn : Nat} {v : Value} {F : List Pk} {sp : Int} (h : Nt w base nn v F sp) : Calls Tryd.prog 72 #[.pointer (some ⟨nn, 0, none⟩), .int .i64 1] w (NtRes w base nn v F 1 (fun x => x = .tuple #[])) := by
  have hS := hid (h.split 1)
  obtain ⟨d0, d1⟩ := nt2 h
  have hz := h.d.lt
  have f1 := h.d.frozen 1
  clear h
  go_enter Tryd.func72, Tryd.ntmps72
  go_wp2_with fail
  go_end0
  exact ⟨_, v, rfl, rfl, hS.out.1, hS.out.2, fun _ h => .inl h⟩
set_option maxRecDepth 100000 in
theorem nheal_any {w : World} {base nn : Nat} {v : Value} {F : List Pk} {sp : Int} (h : Nt w base nn v F sp) : Calls Tryd.prog 44 #[.pointer (some ⟨nn, 0, none⟩)] w (NtRes w base nn v F 0 (fun x => x = .tuple #[])) := by
  have hS := hid (h.split 0)
  obtain ⟨d0, d1⟩ := nt2 h
  have hz := h.d.lt
  have f1 := h.d.frozen 1
  clear h
  go_enter Tryd.func44, Tryd.ntmps44
  go_wp2_with fail
  go_end0
  exact ⟨_, v, rfl, rfl, hS.out.1, hS.out.2, fun _ h => .inl h⟩
set_option maxRecDepth 100000 in
set_option maxHeartbeats 1000000 in
theorem nhear_any {w : World} {base nn : Nat} {v : Value} {F : List Pk} {sp : Int} (h : Nt w base nn v F sp) (hsp : sp = 0 ∨ sp = 1) (a b : Int) (hab : Ends a b) :
    Calls Tryd.prog 75 #[.pointer (some ⟨nn, 0, none⟩), .int .i64 a, .int .i64 b] w fun e w' => e = .returned (.bool (decide (sp = 0))) ∧ Below w.heap.size w w' := by
  obtain ⟨d0, d1⟩ := nt2 h
  have hz := h.d.lt
  clear h
  have c0 := hid fun x : Ext (GB w) => GB.call (x := x) ((end_yes 0 (.inl rfl) x.w).mono fun _ _ h => ⟨h.1, h.2 ▸ Below.refl _ _⟩)
  have c1 := hid fun x : Ext (GB w) => GB.call (x := x) ((end_yes 1 (.inr rfl) x.w).mono fun _ _ h => ⟨h.1, h.2 ▸ Below.refl _ _⟩)
  have hx := fun x : Ext (GB w) => GB.cell x
  rcases hsp with rfl | rfl <;> rcases hab with ⟨rfl, rfl⟩ | ⟨rfl, rfl⟩
  all_goals
    go_enter Tryd.func75, Tryd.ntmps75
    go_upto_region 1 with fail
    refine wp_region_ext (GB w) (by kernel_rfl) (by kernel_rfl) (GB.refl _) ?_
    repeat (go_big_quiet_step (first | with_reducible exact c0.out _ | with_reducible exact c1.out _))
    refine wpQuiet_nil ?_
    intro w7 hG
    clear hx c0 c1
    go_wp2_with fail
    go_ret
    exact ⟨rfl, hG.out⟩
end Go.Proofs.YtappgjdnfllblaaDoor
namespace Go.Proofs.YtappgjdnfllblaaDoor
open Go.RowKit Go.IntWalk

def sendN (F : List Pk) (sp : Int) (p : Pk) : List Pk := if sp = 0 ∧ F.length < 500 then F ++ [p] else F
abbrev pkv (p : Pk) : Array Value := #[.int .i64 p.1, .int .i64 p.2.1, .string p.2.2]
set_option maxRecDepth 100000 in
set_option maxHeartbeats 1000000 in
theorem nsend_any {w : World} {base nn : Nat} {v : Value} {F : List Pk} {sp : Int} (h : Nt w base nn v F sp) (hsp : sp = 0 ∨ sp = 1) (hF : F.length ≤ 500) (hbs : base ≤ w.heap.size) (a b : Int) (s : ByteArray) (hab : Ends a b) :
    Calls Tryd.prog 45 #[.pointer (some ⟨nn, 0, none⟩), .int .i64 a, .int .i64 b, .string s] w (NtRes w base nn v (sendN F sp (a, b, s)) sp (fun x => ∃ n, x = .int .i64 n)) := by
  have H := hid h
  obtain ⟨A, c, rfl, _, _, _⟩ := pk_row h.r
  have ha : a = 0 ∨ a = 1 := by rcases hab with ⟨rfl, _⟩ | ⟨rfl, _⟩ <;> simp
  have hb : b = 0 ∨ b = 1 := by rcases hab with ⟨_, rfl⟩ | ⟨_, rfl⟩ <;> simp
  have hne : (a == b) = false := by rcases hab with ⟨rfl, rfl⟩ | ⟨rfl, rfl⟩ <;> rfl
  have HA := hid ha; have HB := hid hb; have HAB := hid hab
  clear h ha hb hab
  go_enter Tryd.func45, Tryd.ntmps45
  go_wp2_with fail
  refine (end_yes a HA.out _).mono ?_
  rintro e w1 ⟨rfl, rfl⟩
  go_wp2_with fail
  refine (end_yes b HB.out _).mono ?_
  rintro e w1 ⟨rfl, rfl⟩
  go_wp2_with fail
  refine (nhear_any H.out hsp a b HAB.out).mono ?_
  rintro e w1 ⟨rfl, hB1⟩
  rcases hsp with rfl | rfl
  · have H1 := hid (H.out.below hB1)
    obtain ⟨d0, d1⟩ := nt2 H1.out
    have hz := H1.out.d.lt
    by_cases h5 : 500 ≤ F.length
    · have hr := hid (show sendN F 0 (a, b, s) = F by unfold sendN; rw [if_neg (by omega)])
      have h5' : (500 : Int) ≤ (F.length : Int) := by omega
      go_wp2_with fail
      go_ret
      rw [hr.out]
      exact H.out.same ⟨_, rfl⟩ hB1
    · have hr := hid (show sendN F 0 (a, b, s) = F ++ [(a, b, s)] by unfold sendN; rw [if_pos ⟨rfl, by omega⟩])
      have h5' : ¬ (500 : Int) ≤ (F.length : Int) := by omega
      have H2 := hid (H1.out.alloc (Obj.cells (pkv (a, b, s)) 106))
      have hnw := hid (pk_news (p := (a, b, s)) (Blk.new w1 106 (pkv (a, b, s))))
      have f0 := H1.out.d.frozen 0
      have hbz := hid (show base ≤ (w1.alloc (Obj.cells (pkv (a, b, s)) 106)).heap.size by have := hB1.size; simp; omega)
      have hlen := hid (show F.length + 1 ≤ 1000000 by omega)
      have hB1' := hid hB1
      clear hB1 hF hbs
      go_wp2_with (at_builtin; refine wp_appPk _ rfl (.tmp 40) (.tmp 45) rfl base _ F rfl H2.out.r ⟨w1.heap.size, 0, none⟩ 1 [(a, b, s)] rfl hnw.out hlen.out hbz.out ?_; intro v1 w2 ho1 hg1 hat1; obtain ⟨A1, c1, hv1, _, _, _⟩ := pk_row ho1; obtain ⟨n1, hn1⟩ : ∃ n1, n1 = (F ++ [(a, b, s)]).length := ⟨_, rfl⟩; rw [← hn1] at hv1; subst hv1; have HFn := hid hn1; clear hn1; have hd1 := Blk.grown H2.out.d hg1 (fun e => H2.out.vn e.symm); have d10 := hd1.cell 0; have d1f := hd1.frozen 0; have d1l := hd1.lt; have HF := hid (nt_app H2.out ho1 hg1 hat1); clear ho1 hg1 hat1 hd1; simp at d10)
      go_wp2_with fail
      go_ret
      rw [hr.out]
      refine ⟨_, _, rfl, ⟨_, rfl⟩, HF.out.1, Chg.trans (S' := NetS nn (.slice A F.length c)) (Chg.of_below (hB1'.out.trans ((show Below w1.heap.size w1 (w1.alloc (Obj.cells (pkv (a, b, s)) 106)) by (repeat (first | exact Below.refl _ _ | assumption | refine below_drewN ?_ _ | refine Below.drew ?_ | refine Below.alloc ?_ (by (try simp); (try omega)) _ | refine Below.setCell ?_ (by (try simp); (try omega)) _))).mono hB1'.out.size)) (NetS nn (.slice A F.length c))) HF.out.2.1 (fun k _ hk => hk), fun g hg => (HF.out.2.2 g hg).imp id (fun h => by have := hB1'.out.size; simp at h; omega)⟩
  · have hr := hid (show sendN F 1 (a, b, s) = F by unfold sendN; rw [if_neg (by omega)])
    go_wp2_with fail
    go_ret
    rw [hr.out]
    exact H.out.same ⟨_, rfl⟩ hB1

def inN (F : List Pk) (i : Int) : Prop := 0 ≤ i ∧ i < F.length
instance (F : List Pk) (i : Int) : Decidable (inN F i) := by unfold inN; infer_instance
def getN (F : List Pk) (i : Int) : Pk := if 0 ≤ i ∧ i < F.length then F.getD i.toNat (0, 0, ⟨#[]⟩) else (0, 0, ⟨#[]⟩)
def dropN (F : List Pk) (i : Int) : List Pk := if 0 ≤ i ∧ i < F.length then F.eraseIdx i.toNat else F
theorem getN_no {F : List Pk} {i : Int} (h : ¬ (0 ≤ i ∧ i < F.length)) : getN F i = (0, 0, ⟨#[]⟩) := by unfold getN; rw [if_neg h]
theorem getN_yes {F : List Pk} {i : Nat} (h : i < F.length) : getN F i = F[i] := by
  unfold getN; rw [if_pos ⟨by omega, by omega⟩]; simp [h]
theorem dropN_yes {F : List Pk} {i : Nat} (h : i < F.length) : dropN F i = F.eraseIdx i := by
  unfold dropN; rw [if_pos ⟨by omega, by omega⟩]; simp
theorem dropN_no {F : List Pk} {i : Int} (h : ¬ (0 ≤ i ∧ i < F.length)) : dropN F i = F := by unfold dropN; rw [if_neg h]
theorem results_row_tmp {P : Program} {fn : Func} {p u : Tmp} {ty : TypeId} (h : fn.results = #[.cell p ty, .tmp u]) (tmps : Array Value) (w : World) (g : Nat) (t : TypeId) (cs : Array Value) (fr : Nat × Nat) (d : TypeDesc)
    (hp : tmps.getD p undef = .pointer (some ⟨g, 0, none⟩)) (hg : w.heap[g]? = some (.cells cs t fr))
    (hu : P.underlying ty = some d) (hd : (match d with | .struct _ | .array _ _ => true | _ => false) = true) (hi : (P.info? ty).map (·.size) = some cs.size) :
    (results fn tmps).run P w = .ok (.tuple #[.agg cs, tmps.getD u undef]) w := by
  rw [results_cell_tmp h]
  rw [hp]
  simp [asAddr, run_loadVar_row w g t ty cs fr d hg hu hd hi]
theorem take_fin {w w2 w3 : World} {base nn g n c : Nat} {F F' : List Pk} {sp : Int} (H2 : Nt w2 base nn (.slice (some ⟨g, 0, none⟩) n c) F sp) (hB : Below w.heap.size w w2)
    (hd : Blk w3 nn 104 #[.slice (some ⟨g, 0, none⟩) n c, .int .i64 sp]) (ho : w3.ownsRow base 106 3 (.slice (some ⟨g, 0, none⟩) (n - 1) c) F'.length (pc F')) (hg : w2.grownBy w3 (some g))
    (hgn : (Value.slice (some ⟨g, 0, none⟩) n c).ownBlock ≠ some nn) (hgs : g < w.heap.size) (hn : nn ≠ w.heap.size) (x y z : Value) :
    Nt ((((w3.setCell ⟨nn, 0, none⟩ (.slice (some ⟨g, 0, none⟩) (n - 1) c)).setCell ⟨w.heap.size, 0, none⟩ x).setCell ⟨w.heap.size, 1, none⟩ y).setCell ⟨w.heap.size, 2, none⟩ z) base nn (.slice (some ⟨g, 0, none⟩) (n - 1) c) F' sp ∧
    Chg w ((((w3.setCell ⟨nn, 0, none⟩ (.slice (some ⟨g, 0, none⟩) (n - 1) c)).setCell ⟨w.heap.size, 0, none⟩ x).setCell ⟨w.heap.size, 1, none⟩ y).setCell ⟨w.heap.size, 2, none⟩ z) (NetS nn (.slice (some ⟨g, 0, none⟩) n c)) := by
  have hgn' : g ≠ nn := by simpa [Value.ownBlock] using hgn
  have g4 := grown_s w3 nn 0 (.slice (some ⟨g, 0, none⟩) (n - 1) c)
  have g5 : (w3.setCell ⟨nn, 0, none⟩ (.slice (some ⟨g, 0, none⟩) (n - 1) c)).grownBy ((((w3.setCell ⟨nn, 0, none⟩ (.slice (some ⟨g, 0, none⟩) (n - 1) c)).setCell ⟨w.heap.size, 0, none⟩ x).setCell ⟨w.heap.size, 1, none⟩ y).setCell ⟨w.heap.size, 2, none⟩ z) (some w.heap.size) :=
    grown_tr (grown_tr (grown_s _ _ 0 _) (grown_s _ _ 1 _)) (grown_s _ _ 2 _)
  refine ⟨⟨?_, ?_⟩, ?_⟩
  · refine Blk.grown (?_ : Blk (w3.setCell ⟨nn, 0, none⟩ (.slice (some ⟨g, 0, none⟩) (n - 1) c)) nn _ _) g5 (by intro e; injection e with e; omega)
    simpa using hd.set_ 0 (.slice (some ⟨g, 0, none⟩) (n - 1) c)
  · refine (ho.kept g4 (.inr ?_)).kept g5 (.inr ?_)
    · simpa [Value.ownBlock] using hgn'
    · simp [Value.ownBlock]; omega
  · refine Chg.trans (S' := fun k => k = w.heap.size) (Chg.trans (S' := fun k => k = nn) (Chg.trans (S' := fun k => k = g) (Chg.of_below hB (NetS nn (.slice (some ⟨g, 0, none⟩) n c))) (Chg.of_grown hg (fun k e => by injection e)) (fun k _ e => .inr (by simp [Value.ownBlock, e]))) (Chg.of_grown g4 (fun k e => by injection e)) (fun k _ e => .inl e)) (Chg.of_grown g5 (fun k e => by injection e)) (fun k hk e => by omega)
theorem box4_fin {w3 : World} {nn g : Nat} {t t2 : TypeId} {cs : Array Value} {a b c : Value} (hd : Blk w3 nn t2 cs) (h : Blk w3 g t #[a, b, c]) (hn : nn ≠ g) (v' x y z : Value) :
    Blk ((((w3.setCell ⟨nn, 0, none⟩ v').setCell ⟨g, 0, none⟩ x).setCell ⟨g, 1, none⟩ y).setCell ⟨g, 2, none⟩ z) g t #[x, y, z] := by
  have := (((h.far (p := ⟨nn, 0, none⟩) (fun e => hn e.symm) v').set_ 0 x).set_ 1 y).set_ 2 z
  simpa using this
set_option maxRecDepth 100000 in
set_option maxHeartbeats 1000000 in
theorem ntake_in {w : World} {base nn : Nat} {v : Value} {F : List Pk} {sp : Int} (h : Nt w base nn v F sp) (hF : F.length ≤ 500) (k : Nat) (hk : k < F.length) (p : Pk) (hp : F[k] = p) :
    Calls Tryd.prog 73 #[.pointer (some ⟨nn, 0, none⟩), .int .i64 k] w (NtRes w base nn v (F.eraseIdx k) sp (fun x => x = .tuple #[.agg (pkv p), .bool true])) := by
  have H := hid h
  obtain ⟨A, c, rfl, _, _, hrow⟩ := pk_row h.r
  obtain ⟨g, cur, rfl, hg1, hg2, hb, hs, ht⟩ := hrow (by intro e; subst e; simp at hk)
  obtain ⟨k0, k1, k2⟩ := pk_cell hb ht hk
  obtain ⟨d0, d1⟩ := nt2 h
  have f0 := h.d.frozen 0
  have hz := h.d.lt
  have hk1 : (k : Int) < F.length := by omega
  rw [hp] at k0 k1 k2
  obtain ⟨pa, pb, ps⟩ := p
  simp only at k0 k1 k2
  have hgn := hid (own_blk_ne (g := nn) h.r h.d (by decide))
  have hgs := hid hg2
  clear h hrow hb hs ht hp hg1
  go_enter Tryd.func73, Tryd.ntmps73
  have H2 := hid ((H.out.alloc (Obj.cells (pkv (0, 0, ⟨#[]⟩)) 106)).alloc (Obj.cells (pkv (pa, pb, ps)) 106))
  have hB2 := hid (show Below w.heap.size w ((w.alloc (Obj.cells (pkv (0, 0, ⟨#[]⟩)) 106)).alloc (Obj.cells (pkv (pa, pb, ps)) 106)) by (repeat (first | exact Below.refl _ _ | assumption | refine below_drewN ?_ _ | refine Below.drew ?_ | refine Below.alloc ?_ (by (try simp); (try omega)) _ | refine Below.setCell ?_ (by (try simp); (try omega)) _)))
  go_wp2_with fail
  refine (delete_any base g c F k hk _ H2.out.r).mono ?_
  rintro e w3 ⟨rfl, ho3, hg3⟩
  have hg3 : ((w.alloc (Obj.cells (pkv (0, 0, ⟨#[]⟩)) 106)).alloc (Obj.cells (pkv (pa, pb, ps)) 106)).grownBy w3 (some g) := hg3
  have X3 := hid (Blk.new_at (w := w.alloc (Obj.cells (pkv (0, 0, ⟨#[]⟩)) 106)) (t := 106) (cs := pkv (pa, pb, ps)) (g := w.heap.size + 1) (by simp))
  have X4 := hid ((Blk.new w 106 (pkv (0, 0, ⟨#[]⟩))).alloc (Obj.cells (pkv (pa, pb, ps)) 106))
  have d3 := Blk.grown H2.out.d hg3 (fun e => hgn.out e.symm)
  have b3 := Blk.grown X3.out hg3 (by intro e; injection e with e; omega)
  have b4 := Blk.grown X4.out hg3 (by intro e; injection e with e; omega)
  have hx0 := d3.cell 0; have hx1 := d3.cell 1; have hf0 := d3.frozen 0; have hzn := d3.lt
  have hb0 := b3.cell 0; have hb1 := b3.cell 1; have hb2 := b3.cell 2
  have hc0 := b4.cell 0; have hc1 := b4.cell 1; have hc2 := b4.cell 2; have hcf0 := b4.frozen 0; have hcf1 := b4.frozen 1; have hcf2 := b4.frozen 2; have hzb := b3.lt; have hzc := b4.lt
  simp at hx0 hx1 hb0 hb1 hb2 hc0 hc1 hc2
  have B4 := hid b4; have D3 := hid d3; have O3 := hid ho3; have G3 := hid hg3
  have n1 : nn ≠ w.heap.size := by omega
  have n2 : nn ≠ w.heap.size + 1 := by omega
  have n3 : w.heap.size ≠ nn := by omega
  have n4 : w.heap.size + 1 ≠ nn := by omega
  clear d3 b3 b4 ho3 hg3 k0 k1 k2 d0 d1 f0 hz
  go_wp2_with fail
  have hb9 := box4_fin D3.out B4.out n1 (.slice (some ⟨g, 0, none⟩) (F.length - 1) c) (.int .i64 pa) (.int .i64 pb) (.string ps)
  refine bodyPost_ret (results_row_tmp Tryd.results73 _ _ w.heap.size 106 (pkv (pa, pb, ps)) (0, 0) _ rfl hb9 Tryd.underlying106 rfl (by kernel_rfl)) rfl ?_
  have hfin := take_fin H2.out hB2.out D3.out O3.out G3.out hgn.out hgs.out n1 (.int .i64 pa) (.int .i64 pb) (.string ps)
  exact ⟨_, _, rfl, rfl, hfin.1, hfin.2, fun _ h => .inl h⟩
set_option maxRecDepth 100000 in
set_option maxHeartbeats 1000000 in
theorem ntake_out {w : World} {base nn : Nat} {v : Value} {F : List Pk} {sp : Int} (h : Nt w base nn v F sp) (i : Int) (hi : i < 0 ∨ (F.length : Int) ≤ i) :
    Calls Tryd.prog 73 #[.pointer (some ⟨nn, 0, none⟩), .int .i64 i] w (NtRes w base nn v F sp (fun x => x = .tuple #[.agg (pkv (0, 0, ⟨#[]⟩)), .bool false])) := by
  have H := hid h
  obtain ⟨A, c, rfl, _, _, _⟩ := pk_row h.r
  obtain ⟨d0, d1⟩ := nt2 h
  have hz := h.d.lt
  have hB2 := hid (show Below w.heap.size w (w.alloc (Obj.cells (pkv (0, 0, ⟨#[]⟩)) 106)) by (repeat (first | exact Below.refl _ _ | assumption | refine below_drewN ?_ _ | refine Below.drew ?_ | refine Below.alloc ?_ (by (try simp); (try omega)) _ | refine Below.setCell ?_ (by (try simp); (try omega)) _)))
  clear h
  rcases hi with hi | hi
  all_goals
    go_enter Tryd.func73, Tryd.ntmps73
    go_wp2_with fail
    refine bodyPost_ret (v := .tuple #[.agg #[.int .i64 0, .int .i64 0, .string ⟨#[]⟩], .bool false]) (by simp [results, Tryd.results73, go_sem]) rfl ?_
    exact H.out.same rfl hB2.out
theorem ntake_any {w : World} {base nn : Nat} {v : Value} {F : List Pk} {sp : Int} (h : Nt w base nn v F sp) (hF : F.length ≤ 500) (i : Int) :
    Calls Tryd.prog 73 #[.pointer (some ⟨nn, 0, none⟩), .int .i64 i] w (NtRes w base nn v (dropN F i) sp (fun x => x = .tuple #[.agg (pkv (getN F i)), .bool (decide (0 ≤ i ∧ i < F.length))])) := by
  by_cases hi : 0 ≤ i ∧ i < F.length
  · obtain ⟨k, rfl⟩ : ∃ k : Nat, i = k := ⟨i.toNat, by omega⟩
    have hk : k < F.length := by omega
    have hd : decide (0 ≤ (k : Int) ∧ (k : Int) < F.length) = true := by simpa using hk
    rw [getN_yes hk, dropN_yes hk, hd]
    exact ntake_in h hF k hk _ rfl
  · have hd : decide (0 ≤ i ∧ i < F.length) = false := by simpa using hi
    rw [getN_no hi, dropN_no hi, hd]
    exact ntake_out h i (by omega)
/-- What Deliver returns. -/
def delN (F : List Pk) (sp : Int) (i : Int) : Pk × Int := if 0 ≤ i ∧ i < F.length then (if sp = 0 then (getN F i, 0) else ((0, 0, ⟨#[]⟩), 10)) else ((0, 0, ⟨#[]⟩), 4)
abbrev set3 (w : World) (g : Nat) (x y z : Value) : World := ((w.setCell ⟨g, 0, none⟩ x).setCell ⟨g, 1, none⟩ y).setCell ⟨g, 2, none⟩ z
theorem set3_grown (w : World) (g : Nat) (x y z : Value) : w.grownBy (set3 w g x y z) (some g) := grown_tr (grown_tr (grown_s _ _ 0 _) (grown_s _ _ 1 _)) (grown_s _ _ 2 _)
theorem set3_blk {w : World} {g : Nat} {t : TypeId} {a b c : Value} (h : Blk w g t #[a, b, c]) (x y z : Value) : Blk (set3 w g x y z) g t #[x, y, z] := by
  have := ((h.set_ 0 x).set_ 1 y).set_ 2 z
  simpa using this
/-- A box of the call's own is written at last. -/
theorem box_fin {w w4 : World} {base nn : Nat} {v v' : Value} {F F' : List Pk} {sp sp' : Int} (h : Nt w base nn v F sp) (N : Nt w4 base nn v' F' sp') (C : Chg w w4 (NetS nn v)) (hv : ∀ g, v'.ownBlock = some g → v.ownBlock = some g ∨ w.heap.size + 1 ≤ g) (x y z : Value) :
    Nt (set3 w4 w.heap.size x y z) base nn v' F' sp' ∧ Chg w (set3 w4 w.heap.size x y z) (NetS nn v) := by
  have hg := set3_grown w4 w.heap.size x y z
  have hnn := h.d.lt
  refine ⟨⟨N.d.grown hg (by intro e; injection e with e; omega), N.r.kept hg ?_⟩, Chg.trans (S' := fun k => k = w.heap.size) C (Chg.of_grown hg (fun k e => by injection e)) (fun k hk e => by omega)⟩
  cases ho : v'.ownBlock with
  | none => exact .inl rfl
  | some g =>
    refine .inr ?_
    intro e
    injection e with e
    rcases hv g ho with h1 | h1
    · have := h.fresh (.inr h1); omega
    · omega
set_option maxRecDepth 100000 in
set_option maxHeartbeats 1000000 in
theorem ndeliver_any {w : World} {base nn : Nat} {v : Value} {F : List Pk} {sp : Int} (h : Nt w base nn v F sp) (hsp : sp = 0 ∨ sp = 1) (hF : F.length ≤ 500) (i : Int) (hE : ∀ p ∈ F, Ends p.1 p.2.1) :
    Calls Tryd.prog 76 #[.pointer (some ⟨nn, 0, none⟩), .int .i64 i] w (NtRes w base nn v (dropN F i) sp (fun x => x = .tuple #[.agg (pkv (delN F sp i).1), .int .i64 (delN F sp i).2])) := by
  have H := hid h
  have HE := hid hE
  have H1 := hid (h.alloc (Obj.cells (pkv (0, 0, ⟨#[]⟩)) 106))
  have b1 := hid (Blk.new w 106 (pkv (0, 0, ⟨#[]⟩)))
  have hB1 := hid (show Below w.heap.size w (w.alloc (Obj.cells (pkv (0, 0, ⟨#[]⟩)) 106)) by (repeat (first | exact Below.refl _ _ | assumption | refine below_drewN ?_ _ | refine Below.drew ?_ | refine Below.alloc ?_ (by (try simp); (try omega)) _ | refine Below.setCell ?_ (by (try simp); (try omega)) _)))
  have hzn := hid h.d.lt
  clear h hE
  go_enter Tryd.func76, Tryd.ntmps76
  go_wp2_with fail
  refine (ntake_any H1.out hF i).mono ?_
  rintro e w2 ⟨x, v2, rfl, rfl, N2, C2, V2⟩
  have hb2 := C2.blk b1.out (by intro hk; have := H.out.fresh hk; omega)
  have C2' := hid (Chg.trans (S' := NetS nn v) (Chg.of_below hB1.out (NetS nn v)) C2 (fun k _ h => h))
  have V2' := hid (show ∀ g, v2.ownBlock = some g → v.ownBlock = some g ∨ w.heap.size + 1 ≤ g from fun g hg => (V2 g hg).imp id (fun h => by simpa using h))
  have n2 := hid N2
  have B2 := hid hb2
  have hz2 := hid C2.size
  clear N2 C2 V2 hb2 b1 hB1 H1
  by_cases hi : 0 ≤ i ∧ i < F.length
  · have hd : decide (0 ≤ i ∧ i < F.length) = true := by simpa using hi
    have hde := hid (show delN F sp i = if sp = 0 then (getN F i, 0) else ((0, 0, ⟨#[]⟩), 10) by unfold delN; rw [if_pos hi])
    have hEn : Ends (getN F i).1 (getN F i).2.1 := by
      obtain ⟨k, rfl⟩ : ∃ k : Nat, i = k := ⟨i.toNat, by omega⟩
      have hk : k < F.length := by omega
      rw [getN_yes hk]
      exact HE.out _ (List.getElem_mem hk)
    rw [hd]
    clear hd hi
    generalize getN F i = p at *
    obtain ⟨pa, pb, ps⟩ := p
    have HEn := hid hEn
    clear hEn
    go_wp2_with fail
    have N3 := hid (n2.out.alloc (Obj.cells (pkv (pa, pb, ps)) 106))
    have C3 := hid (Chg.trans (S' := NetS nn v) C2'.out (Chg.of_below (w := w2) (w' := w2.alloc (Obj.cells (pkv (pa, pb, ps)) 106)) (by (repeat (first | exact Below.refl _ _ | assumption | refine below_drewN ?_ _ | refine Below.drew ?_ | refine Below.alloc ?_ (by (try simp); (try omega)) _ | refine Below.setCell ?_ (by (try simp); (try omega)) _))) _) (fun k _ h => h))
    have B3 := hid (B2.out.alloc (Obj.cells (pkv (pa, pb, ps)) 106))
    have x3 := hid (Blk.new w2 106 (pkv (pa, pb, ps)))
    refine (nhear_any N3.out hsp pa pb HEn.out).mono ?_
    rintro e w4 ⟨rfl, hB4⟩
    have N4 := hid (N3.out.below hB4)
    have C4 := hid (Chg.trans (S' := NetS nn v) C3.out (Chg.of_below hB4 _) (fun k _ h => h))
    have B4 := hid (B3.out.below hB4 B3.out.lt)
    have x4 := x3.out.below hB4 x3.out.lt
    have a0 := x4.cell 0; have a1 := x4.cell 1; have a2 := x4.cell 2; have hzx := x4.lt
    have c0 := B4.out.cell 0; have c1 := B4.out.cell 1; have c2 := B4.out.cell 2; have hzc := B4.out.lt
    have f0 := B4.out.frozen 0; have f1 := B4.out.frozen 1; have f2 := B4.out.frozen 2
    simp at a0 a1 a2 c0 c1 c2
    have n1 : w.heap.size ≠ w2.heap.size := by have := B2.out.lt; omega
    have n2' : w2.heap.size ≠ w.heap.size := by have := B2.out.lt; omega
    clear hB4 x4 N3 C3 B3 x3 n2 C2'
    rcases hsp with rfl | rfl
    · have he9 := hid (show delN F 0 i = ((pa, pb, ps), 0) by rw [hde.out]; rfl)
      clear hde
      go_wp2_with fail
      have hb9 := set3_blk B4.out (.int .i64 pa) (.int .i64 pb) (.string ps)
      refine bodyPost_ret (results_row_tmp Tryd.results76 _ _ w.heap.size 106 (pkv (pa, pb, ps)) (0, 0) _ rfl hb9 Tryd.underlying106 rfl (by kernel_rfl)) rfl ?_
      rw [he9.out]
      have hfin := box_fin H.out N4.out C4.out V2'.out (.int .i64 pa) (.int .i64 pb) (.string ps)
      exact ⟨_, _, rfl, rfl, hfin.1, hfin.2, fun g hg => (V2'.out g hg).imp id (fun h => by omega)⟩
    · have he9 := hid (show delN F 1 i = ((0, 0, ⟨#[]⟩), 10) by rw [hde.out]; rfl)
      clear hde
      go_wp2_with fail
      have hb9 := set3_blk B4.out (.int .i64 0) (.int .i64 0) (.string ⟨#[]⟩)
      refine bodyPost_ret (results_row_tmp Tryd.results76 _ _ w.heap.size 106 (pkv (0, 0, ⟨#[]⟩)) (0, 0) _ rfl hb9 Tryd.underlying106 rfl (by kernel_rfl)) rfl ?_
      rw [he9.out]
      have hfin := box_fin H.out N4.out C4.out V2'.out (.int .i64 0) (.int .i64 0) (.string ⟨#[]⟩)
      exact ⟨_, _, rfl, rfl, hfin.1, hfin.2, fun g hg => (V2'.out g hg).imp id (fun h => by omega)⟩
  · have hd : decide (0 ≤ i ∧ i < F.length) = false := by simpa using hi
    have hde := hid (show delN F sp i = ((0, 0, ⟨#[]⟩), 4) by unfold delN; rw [if_neg hi])
    rw [hd, getN_no hi]
    clear hd hi
    have c0 := B2.out.cell 0; have c1 := B2.out.cell 1; have c2 := B2.out.cell 2; have hzc := B2.out.lt
    have f0 := B2.out.frozen 0; have f1 := B2.out.frozen 1; have f2 := B2.out.frozen 2
    simp at c0 c1 c2
    go_wp2_with fail
    have hb9 := (set3_blk B2.out (.int .i64 0) (.int .i64 0) (.string ⟨#[]⟩)).alloc (Obj.cells (pkv (0, 0, ⟨#[]⟩)) 106)
    refine bodyPost_ret (results_row_tmp Tryd.results76 _ _ w.heap.size 106 (pkv (0, 0, ⟨#[]⟩)) (0, 0) _ rfl hb9 Tryd.underlying106 rfl (by kernel_rfl)) rfl ?_
    rw [hde.out]
    have hfin := box_fin H.out n2.out C2'.out V2'.out (.int .i64 0) (.int .i64 0) (.string ⟨#[]⟩)
    exact ⟨_, _, rfl, rfl, hfin.1.alloc _, Chg.trans (S' := NetS nn v) hfin.2 (Chg.of_below (by (repeat (first | exact Below.refl _ _ | assumption | refine below_drewN ?_ _ | refine Below.drew ?_ | refine Below.alloc ?_ (by (try simp); (try omega)) _ | refine Below.setCell ?_ (by (try simp); (try omega)) _))) _) (fun k _ h => h), fun g hg => (V2'.out g hg).imp id (fun h => by omega)⟩
set_option maxRecDepth 100000 in
theorem ndrop_any {w : World} {base nn : Nat} {v : Value} {F : List Pk} {sp : Int} (h : Nt w base nn v F sp) (hF : F.length ≤ 500) (i : Int) :
    Calls Tryd.prog 43 #[.pointer (some ⟨nn, 0, none⟩), .int .i64 i] w (NtRes w base nn v (dropN F i) sp (fun x => ∃ n, x = .int .i64 n)) := by
  have H := hid h
  clear h
  go_enter Tryd.func43, Tryd.ntmps43
  go_wp2_with fail
  refine (ntake_any H.out hF i).mono ?_
  rintro e w2 ⟨x, v2, rfl, rfl, N2, C2, V2⟩
  have n2 := hid N2
  have c2 := hid C2
  have V2' := hid V2
  clear N2 C2 V2
  generalize decide (0 ≤ i ∧ i < F.length) = bb
  generalize getN F i = p
  obtain ⟨pa, pb, ps⟩ := p
  have N3 := hid (n2.out.alloc (Obj.cells (pkv (pa, pb, ps)) 106))
  have C3 := hid (Chg.trans (S' := NetS nn v) c2.out (Chg.of_below (w := w2) (w' := w2.alloc (Obj.cells (pkv (pa, pb, ps)) 106)) (by (repeat (first | exact Below.refl _ _ | assumption | refine below_drewN ?_ _ | refine Below.drew ?_ | refine Below.alloc ?_ (by (try simp); (try omega)) _ | refine Below.setCell ?_ (by (try simp); (try omega)) _))) _) (fun k _ h => h))
  cases bb
  all_goals
    go_wp2_with fail
    go_ret
    exact ⟨_, _, rfl, ⟨_, rfl⟩, N3.out, C3.out, V2'.out⟩
end Go.Proofs.YtappgjdnfllblaaDoor
namespace Go.Proofs.YtappgjdnfllblaaDoor
open Go.RowKit Go.IntWalk

def dblN (F : List Pk) (i : Int) : List Pk := if (0 ≤ i ∧ i < F.length) ∧ F.length < 500 then F ++ [getN F i] else F
theorem Nt.drew {w : World} {base nn : Nat} {v : Value} {F : List Pk} {sp : Int} (h : Nt w base nn v F sp) : Nt w.drew base nn v F sp := ⟨h.d, h.r⟩
theorem step_appPk {ops : Array Oper} {o : Oper} {a : Act} {K : Act → World → Prop} {Q : Exit → Act → World → Prop} {E : Prop} (w : World) (hgd : o.guard = none) (s x : Operand)
    (ho : o.op = .call { callee := .builtin .append, args := #[s, x], argTypes := #[102, 102] })
    (base : Nat) (v : Value) (F : List Pk) (hs : a.eval s = v) (hown : w.ownsRow base 106 3 v F.length (pc F)) (B : Nat) (p : Pk) (hx : a.eval x = .slice (some ⟨B, 0, none⟩) 1 1)
    (hb : Blk w B 106 (pkv p)) (hlen : F.length ≤ 1000000) (hbase : base ≤ w.heap.size)
    (h : ∀ g cap w', w'.ownsRow base 106 3 (.slice (some ⟨g, 0, none⟩) (F.length + 1) cap) (F ++ [p]).length (pc (F ++ [p])) → w.grownBy w' v.ownBlock → (v.ownBlock = some g ∨ g = w.heap.size) → g < w'.heap.size → K (a.put o.dst (.slice (some ⟨g, 0, none⟩) (F.length + 1) cap)) w') :
    if Region.wanted o (yielded ops a.tmps) = true then Oper.wp Tryd.prog o a w K Q else E := by
  obtain ⟨i0, hi, hz0, hz1, hz2⟩ := info_parts infoPk
  refine step_append_lies w hgd s x 102 ho base 106 i0 _ 3 32 Tryd.underlying102 hi hz0 hz1 hz2 rfl (by omega) v F.length (pc F) hs hown ⟨B, 0, none⟩ 1 1 [.int .i64 p.1, .int .i64 p.2.1, .string p.2.2] hx rfl ?_ ?_ (by omega) (by unfold maxLen; omega) (by omega) hbase _ rfl ?_
  · exact World.news_of_block (w := w) (B := B) hb
  · intro u hu
    simp at hu
    rcases hu with rfl | rfl | rfl <;> simp [Value.oneCell']
  · intro g cap w' h1 h2 h3 h4
    refine h g cap w' ?_ h2 h3 h4
    rw [pc_app, List.length_append]
    exact h1
set_option maxRecDepth 100000 in
theorem dbl_no {w : World} {base nn : Nat} {v : Value} {F : List Pk} {sp : Int} (h : Nt w base nn v F sp) (i : Int) (hi : (i < 0 ∨ (F.length : Int) ≤ i) ∨ 500 ≤ F.length) :
    Calls Tryd.prog 71 #[.pointer (some ⟨nn, 0, none⟩), .int .i64 i] w (NtRes w base nn v F sp (fun x => ∃ n, x = .int .i64 n)) := by
  have H := hid h
  obtain ⟨A, c, rfl, _, _, _⟩ := pk_row h.r
  obtain ⟨d0, d1⟩ := nt2 h
  have hz := h.d.lt
  clear h
  by_cases h0 : i < 0
  · clear hi
    go_enter Tryd.func71, Tryd.ntmps71
    go_wp2_with fail
    go_ret
    exact H.out.same ⟨_, rfl⟩ (Below.refl _ _)
  by_cases h1 : (F.length : Int) ≤ i
  · clear hi
    go_enter Tryd.func71, Tryd.ntmps71
    go_wp2_with fail
    go_ret
    exact H.out.same ⟨_, rfl⟩ (Below.refl _ _)
  have h2 : (500 : Int) ≤ (F.length : Int) := by omega
  clear hi
  go_enter Tryd.func71, Tryd.ntmps71
  go_wp2_with fail
  go_ret
  exact H.out.same ⟨_, rfl⟩ (Below.refl _ _)
set_option maxRecDepth 100000 in
set_option maxHeartbeats 1000000 in
theorem dbl_yes {w : World} {base nn : Nat} {v : Value} {F : List Pk} {sp : Int} (h : Nt w base nn v F sp) (hbs : base ≤ w.heap.size) (k : Nat) (hk : k < F.length) (hF : F.length < 500) (p : Pk) (hp : F[k] = p) :
    Calls Tryd.prog 71 #[.pointer (some ⟨nn, 0, none⟩), .int .i64 k] w (NtRes w base nn v (F ++ [p]) sp (fun x => ∃ n, x = .int .i64 n)) := by
  have H := hid h
  obtain ⟨A, c, rfl, _, _, hrow⟩ := pk_row h.r
  obtain ⟨g, cur, rfl, hg1, hg2, hb, hs, ht⟩ := hrow (by intro e; subst e; simp at hk)
  obtain ⟨k0, k1, k2⟩ := pk_cell hb ht hk
  obtain ⟨d0, d1⟩ := nt2 h
  have f0 := h.d.frozen 0
  have hz := h.d.lt
  have hk1 : (k : Int) < F.length := by omega
  have hF1 : ¬ (500 : Int) ≤ (F.length : Int) := by omega
  rw [hp] at k0 k1 k2
  obtain ⟨pa, pb, ps⟩ := p
  simp only at k0 k1 k2
  have hB1 := hid (show Below w.heap.size w ((w.alloc (Obj.cells (pkv (pa, pb, ps)) 106)).drew) by (repeat (first | exact Below.refl _ _ | assumption | refine below_drewN ?_ _ | refine Below.drew ?_ | refine Below.alloc ?_ (by (try simp); (try omega)) _ | refine Below.setCell ?_ (by (try simp); (try omega)) _)))
  have H2 := hid ((h.alloc (Obj.cells (pkv (pa, pb, ps)) 106)).drew)
  have x2 := hid ((Blk.new w 106 (pkv (pa, pb, ps))).drew)
  have hlen := hid (show F.length ≤ 1000000 by omega)
  have hbz := hid (show base ≤ (w.alloc (Obj.cells (pkv (pa, pb, ps)) 106)).drew.heap.size by show base ≤ (w.alloc _).heap.size; simp; omega)
  clear h hrow hb hs ht hp hg1 hF hbs
  go_enter Tryd.func71, Tryd.ntmps71
  go_upto_region 5 with fail
  go_region_law (first | (refine step_appPk _ (by rfl) (.tmp 28) (.tmp 36) (by rfl) base _ F (by rfl) H2.out.r w.heap.size (pa, pb, ps) (by rfl) x2.out hlen.out hbz.out ?_; intro g2 cap w1 ho1 hgr hat hlt1; have hd1 := Blk.grown H2.out.d hgr (fun e => H2.out.vn e.symm); have d10 := hd1.cell 0; have d11 := hd1.cell 1; have d1f := hd1.frozen 0; have d1l := hd1.lt; simp at d10 d11))
  all_goals
    have HF := hid (nt_app H2.out ho1 hgr (hat.elim (fun e => .inl (by rw [e]; rfl)) (fun e => .inr (by rw [e]; rfl))))
    clear ho1 hgr hat hd1
    go_wp2_with fail
    go_ret
    exact ⟨_, _, rfl, ⟨_, rfl⟩, HF.out.1, Chg.trans (S' := NetS nn (.slice (some ⟨g, 0, none⟩) F.length c)) (Chg.of_below hB1.out _) HF.out.2.1 (fun k _ h => h), fun g9 h9 => (HF.out.2.2 g9 h9).imp id (fun h => by have := hB1.out.size; omega)⟩
theorem ndouble_any {w : World} {base nn : Nat} {v : Value} {F : List Pk} {sp : Int} (h : Nt w base nn v F sp) (hbs : base ≤ w.heap.size) (i : Int) :
    Calls Tryd.prog 71 #[.pointer (some ⟨nn, 0, none⟩), .int .i64 i] w (NtRes w base nn v (dblN F i) sp (fun x => ∃ n, x = .int .i64 n)) := by
  by_cases hi : (0 ≤ i ∧ i < F.length) ∧ F.length < 500
  · obtain ⟨k, rfl⟩ : ∃ k : Nat, i = k := ⟨i.toNat, by omega⟩
    have hk : k < F.length := by omega
    rw [show dblN F k = F ++ [F[k]] by unfold dblN; rw [if_pos hi, getN_yes hk]]
    exact dbl_yes h hbs k hk hi.2 _ rfl
  · rw [show dblN F i = F by unfold dblN; rw [if_neg hi]]
    exact dbl_no h i (by omega)
end Go.Proofs.YtappgjdnfllblaaDoor
