
/- Robots: the way of a mind. -/
import Derived.Test.YtnnephifjikkdaaGreatDoorRobA
set_option linter.unusedSimpArgs false
set_option linter.unusedVariables false
namespace Go.Proofs.YtnnephifjikkdaaGreatDoor
open Go.RowKit Go.IntWalk

def isMv (a : Int) : Bool := decide (1 ≤ a ∧ a < 7)
set_option maxRecDepth 100000 in
set_option maxHeartbeats 400000 in
theorem move_any (a : Int) (w : World) (h : 0 ≤ a ∧ a < 10) :
    Calls Tryz.prog 81 #[.int .i64 a] w fun e w' => e = .returned (.tuple #[.int .i64 (a - 1), .bool (isMv a)]) ∧ w = w' := by
  obtain ⟨h0, h1⟩ := h
  by_cases h2 : 1 ≤ a
  · by_cases h3 : a < 7
    · have hr := hid (show isMv a = true by simp [isMv, h2, h3])
      go_enter Tryz.func81, Tryz.ntmps81
      go_wp2
      go_ret2
      rw [hr.out]
      exact ⟨by congr 1; (try simp [h2, h3]), rfl⟩
    · have hr := hid (show isMv a = false by simp [isMv]; omega)
      go_enter Tryz.func81, Tryz.ntmps81
      go_wp2
      go_ret2
      rw [hr.out]
      exact ⟨by congr 1; (try simp); try omega, rfl⟩
  · have hr := hid (show isMv a = false by simp [isMv]; omega)
    go_enter Tryz.func81, Tryz.ntmps81
    go_wp2
    go_ret2
    rw [hr.out]
    exact ⟨by congr 1; (try simp); try omega, rfl⟩

/-- The way from a cell under acts, where nx says how one goes on. -/
def wayL (nx : Int → Int → Option Int) : Int → List Int → Option (List Int)
  | c, [] => some [c]
  | c, a :: q => if isMv a then (match nx c (a - 1) with
      | none => none
      | some c' => (wayL nx c' q).map (c :: ·)) else wayL nx c q
def WayRes (w : World) (r : Option (List Int)) (e : Ending) (w' : World) : Prop :=
  match r with
  | none => e = .returned (.tuple #[.slice none 0 0, .bool false]) ∧ Below w.heap.size w w'
  | some l => ∃ A c, e = .returned (.tuple #[.slice A l.length c, .bool true]) ∧ l.length ≤ c ∧ c ≤ maxLen ∧ SlR w' w'.heap.size A l ∧ Fresh w.heap.size A ∧ Below w.heap.size w w'
theorem wayRes_none {w w' : World} {r : Option (List Int)} {e : Ending} (h : r = none) (he : e = .returned (.tuple #[.slice none 0 0, .bool false])) (hb : Below w.heap.size w w') : WayRes w r e w' := by subst h; exact ⟨he, hb⟩

theorem own_at {w : World} {base : Nat} {v : Value} {l : List Int} (h : OwnI w base v l) (hl : 0 < l.length) : ∃ g c, v = .slice (some ⟨g, 0, none⟩) l.length c ∧ base ≤ g ∧ g < w.heap.size ∧ (∀ k (hk : k < l.length), w.cell? ⟨g, k, none⟩ = some (.int .i64 l[k])) ∧ w.heap[g]? ≠ none ∧ ∃ cur, w.heap[g]? = some (.cells cur 3 (0, 0)) := by
  rcases h.2 with ⟨_, hn⟩ | ⟨g, cap, cur, hv, hg, hb, hc, hm, _⟩
  · omega
  · refine ⟨g, cap, hv, hg, (Array.getElem?_eq_some_iff.1 hb).1, fun k hk => ?_, by rw [hb]; simp, cur, hb⟩
    have hh := h
    unfold OwnI at hh
    rw [hv] at hh
    have := hh.cellAt k (by omega)
    simpa [hk] using this
theorem own_ne {w : World} {base g : Nat} {v : Value} {l : List Int} {t : TypeId} {cs : Array Value} (h : OwnI w base v l) (hg : Blk w g t cs) (hne : 3 ≠ t) : some g ≠ v.ownBlock := Ne.symm (own_blk_ne h hg hne)

set_option maxRecDepth 100000 in
set_option maxHeartbeats 2000000 in
theorem way_any (W H D : Int) (Ak Ao : Option Addr) (ck co : Nat) (kind out : List Int) (c0 : Int) (Aq : Option Addr) (cq : Nat) (q : List Int) (w : World) (h : RF W H D kind out) (hk : SlR w w.heap.size Ak kind) (ho : SlR w w.heap.size Ao out) (hq : SlR w w.heap.size Aq q) (hl : q.length ≤ 10) (hkn : ∀ x ∈ q, 0 ≤ x ∧ x < 10) (hc : I64 c0) :
    Calls Tryz.prog 77 #[.agg #[.int .i64 W, .int .i64 H, .int .i64 D, .slice Ak kind.length ck, .slice Ao out.length co], .agg #[.int .i64 c0, .slice Aq q.length cq]] w (WayRes w (wayL (nextL W H D kind out) c0 q)) := by
  have hI := hid h
  have hkn' := hid hkn
  have hcI := hid hc
  clear h hkn hc
  have hkI := hid hk.ints
  have hqI := hid hq.ints
  go_enter Tryz.func77, Tryz.ntmps77
  go_wp2_with fail
  have hB0 : Below w.heap.size w (((w.alloc (Obj.cells #[.int .i64 W, .int .i64 H, .int .i64 D, .slice Ak kind.length ck, .slice Ao out.length co] 24)).alloc (Obj.cells #[.int .i64 c0, .slice Aq q.length cq] 48)).alloc (Obj.cells #[Value.int IntKind.i64 c0] 3)) := by (repeat (first | exact Below.refl _ _ | assumption | refine below_drewN ?_ _ | refine Below.drew ?_ | refine Below.alloc ?_ (by (try simp); (try omega)) _ | refine Below.setCell ?_ (by (try simp); (try omega)) _))
  have hO0 : Hid (OwnI (((w.alloc (Obj.cells #[.int .i64 W, .int .i64 H, .int .i64 D, .slice Ak kind.length ck, .slice Ao out.length co] 24)).alloc (Obj.cells #[.int .i64 c0, .slice Aq q.length cq] 48)).alloc (Obj.cells #[Value.int IntKind.i64 c0] 3)) w.heap.size (.slice (some ⟨w.heap.size + 1 + 1, 0, none⟩) 1 1) [c0]) := by
    have := OwnI.fresh (base := w.heap.size) (l := [c0]) (Blk.new ((w.alloc (Obj.cells #[.int .i64 W, .int .i64 H, .int .i64 D, .slice Ak kind.length ck, .slice Ao out.length co] 24)).alloc (Obj.cells #[.int .i64 c0, .slice Aq q.length cq] 48)) 3 #[.int .i64 c0]) (by simp; omega) (by simp [maxLen])
    unfold Hid
    simpa using this
  have hbl0 : Blk (((w.alloc (Obj.cells #[.int .i64 W, .int .i64 H, .int .i64 D, .slice Ak kind.length ck, .slice Ao out.length co] 24)).alloc (Obj.cells #[.int .i64 c0, .slice Aq q.length cq] 48)).alloc (Obj.cells #[Value.int IntKind.i64 c0] 3)) w.heap.size 24 #[.int .i64 W, .int .i64 H, .int .i64 D, .slice Ak kind.length ck, .slice Ao out.length co] := ((Blk.new w _ _).alloc _).alloc _
  have R0 : Hid (wayL (nextL W H D kind out) c0 q = (wayL (nextL W H D kind out) c0 (q.drop 0)).map ([] ++ ·)) := by simp [Hid]
  go_loopw [6, 19] (fun v i wr => ∃ (k : Nat) (init : List Int) (cur : Int), k ≤ q.length ∧ init.length ≤ k ∧ i = .int .i64 k ∧ OwnI wr w.heap.size v (init ++ [cur]) ∧ Below w.heap.size w wr ∧ Blk wr w.heap.size 24 #[.int .i64 W, .int .i64 H, .int .i64 D, .slice Ak kind.length ck, .slice Ao out.length co] ∧ Hid (∀ x ∈ init ++ [cur], I64 x) ∧ Hid (wayL (nextL W H D kind out) c0 q = (wayL (nextL W H D kind out) cur (q.drop k)).map (init ++ ·))) (fun _ i _ => q.length - (intOf i).toNat)
  case atStart => exact ⟨0, [], c0, by omega, by simp, rfl, hO0.out, hB0, hbl0, by simpa [Hid] using hcI.out, R0⟩
  case round =>
    clear R0 hO0 hbl0 hB0
    obtain ⟨k, init, cur, hkq, hik, rfl, hown, hB, hbl, hIs, hres⟩ := hrel
    by_cases hlt : k < q.length
    · obtain ⟨b, off, rfl, hb, g1, _⟩ := (hq.below hB).int hlt
      obtain ⟨ha0, ha1⟩ := hkn'.out q[k] (List.getElem_mem hlt)
      have hst : Hid (wayL (nextL W H D kind out) cur (q.drop k) = wayL (nextL W H D kind out) cur (q[k] :: q.drop (k+1))) := by rw [Hid, List.drop_eq_getElem_cons hlt]
      generalize q[k] = a at *
      cases hmv : isMv a with
      | false =>
        have hst2 : Hid (wayL (nextL W H D kind out) c0 q = (wayL (nextL W H D kind out) cur (q.drop (k+1))).map (init ++ ·)) := by rw [Hid, hres.out, hst.out]; simp [wayL, hmv]
        have Hmv := hid hmv
        clear hmv
        go_wp2_with fail
        refine (move_any a _ ⟨ha0, ha1⟩).mono ?_
        rintro e w' ⟨rfl, rfl⟩
        rw [Hmv.out]
        go_wp2_with fail
        go_roundw
        case rel => exact ⟨k+1, init, cur, by omega, by omega, by go_num, hown, hB, hbl, hIs, hst2⟩
        case measure => simp [intOf]; omega
      | true =>
        have Hmv := hid hmv
        clear hmv
        go_wp2_with fail
        refine (move_any a _ ⟨ha0, ha1⟩).mono ?_
        rintro e w' ⟨rfl, rfl⟩
        rw [Hmv.out]
        go_wp2_with fail
        obtain ⟨g, cc, rfl, hg0, hg1, hcs, _⟩ := own_at hown (by simp)
        have gL : wr.cell? ⟨g, init.length, none⟩ = some (.int .i64 cur) := by have := hcs init.length (by simp); simpa using this
        clear hcs
        have hlen : (init ++ [cur]).length = init.length + 1 := by simp
        rw [hlen] at hown ⊢
        clear hlen
        obtain ⟨k0, k1, k2, k3, k4⟩ := blk5 hbl
        have hz := hbl.lt
        have hx := fun x : Ext (GB wr) => GB.cell x
        have hsz := hB.size
        cases hnx : nextL W H D kind out cur (a - 1) with
        | none =>
          have hst2 : Hid (wayL (nextL W H D kind out) c0 q = none) := by rw [Hid, hres.out, hst.out]; simp [wayL, Hmv.out, hnx]
          have cs := hid fun x : Ext (GB wr) => GB.call (x := x) (v := .tuple #[.int .i64 0, .bool false]) (by
            have := next_any W H D Ak Ao ck co kind out cur (a - 1) x.w hI.out (((hk.below hB).below (x.h.out.mono hsz)).more (by have := GB.size x; omega)) (((ho.below hB).below (x.h.out.mono hsz)).more (by have := GB.size x; omega))
            rw [hnx] at this
            exact this)
          clear hnx
          refine wp_region_ext (GB wr) (by kernel_rfl) (by kernel_rfl) (GB.refl _) ?_
          repeat (go_big_quiet_step (exact cs.out _))
          refine wpQuiet_nil ?_
          intro w2 hG2
          have hb2 := hB.trans (hG2.out.mono hsz)
          clear hx cs hG2 k0 k1 k2 k3 k4 gL hown hz
          go_wp2_with fail
          go_ret2
          exact wayRes_none hst2.out rfl hb2
        | some nx =>
          have hst2 : Hid (wayL (nextL W H D kind out) c0 q = (wayL (nextL W H D kind out) nx (q.drop (k+1))).map ((init ++ [cur]) ++ ·)) := by
            rw [Hid, hres.out, hst.out]
            simp only [wayL, Hmv.out, hnx, if_true, Option.map_map]
            congr 1
            funext l
            simp
          obtain ⟨hnx0, hnx1, _⟩ := nextL_in hI.out hnx
          have hIx : I64 nx := by have := hI.out.s.n; exact ⟨by omega, by omega⟩
          have hIs2 : Hid (∀ x ∈ (init ++ [cur]) ++ [nx], I64 x) := by
            intro x hx
            rw [List.mem_append] at hx
            rcases hx with h | h
            · exact hIs.out x h
            · simp at h; subst h; exact hIx
          have cs := hid fun x : Ext (GB wr) => GB.call (x := x) (v := .tuple #[.int .i64 nx, .bool true]) (by
            have := next_any W H D Ak Ao ck co kind out cur (a - 1) x.w hI.out (((hk.below hB).below (x.h.out.mono hsz)).more (by have := GB.size x; omega)) (((ho.below hB).below (x.h.out.mono hsz)).more (by have := GB.size x; omega))
            rw [hnx] at this
            exact this)
          clear hnx hIx hnx0 hnx1
          refine wp_region_ext (GB wr) (by kernel_rfl) (by kernel_rfl) (GB.refl _) ?_
          repeat (go_big_quiet_step (exact cs.out _))
          refine wpQuiet_nil ?_
          intro w2 hG2
          have hb2 := hB.trans (hG2.out.mono hsz)
          have hbl2 := hbl.below hG2.out hbl.lt
          have hown2 := hid (show OwnI w2 w.heap.size (.slice (some ⟨g, 0, none⟩) (init.length + 1) cc) (init ++ [cur]) from hown.below hG2.out)
          have hsz2 := hb2.size
          have hcell : Hid (∀ (j : Nat) (u : Value), ([nx].map (Value.int .i64))[j]? = some u → (w2.alloc (Obj.cells #[Value.int .i64 nx] 3)).cell? ((⟨w2.heap.size, 0, none⟩ : Addr).add j) = some u) := by
            intro j u hu
            match j, hu with
            | 0, hu => simp at hu; subst hu; simp [Addr.add, go_sem]
            | j+1, hu => simp at hu
          clear hx cs hG2 k0 k1 k2 k3 k4 gL hown hz hsz hB hbl
          go_wp2_with (at_builtin; refine wp_appI _ rfl (.tmp 44) (.tmp 46) rfl w.heap.size (.slice (some ⟨g, 0, none⟩) (init.length + 1) cc) (init ++ [cur]) rfl (hown2.out.alloc _) _ _ [nx] rfl hcell.out (by simp; omega) (by simp; omega) ?_; intro v1 w3 ho1 hg1 hat1)
          have hbl3 : Blk w3 w.heap.size 24 #[.int .i64 W, .int .i64 H, .int .i64 D, .slice Ak kind.length ck, .slice Ao out.length co] := (hbl2.alloc _).grown hg1 (own_ne hown2.out hbl2 (by decide))
          have hb3 : Below w.heap.size w w3 := by
            refine (hb2.alloc (by omega) _).grown hg1 (by simp; omega) ?_
            intro k' hk'
            have hk2 : some g = some k' := hk'
            injection hk2 with e
            omega
          clear hown2 hcell hbl2 hb2 hg1 hat1
          go_wp2_with fail
          go_roundw
          case rel => exact ⟨k+1, init ++ [cur], nx, by omega, by simp; omega, by go_num, ho1, hb3, hbl3, hIs2, hst2⟩
          case measure => simp [intOf]; omega
    · have hst : Hid (wayL (nextL W H D kind out) c0 q = some (init ++ [cur])) := by
        rw [Hid, hres.out, List.drop_eq_nil_of_le (by omega)]; simp [wayL]
      go_wp2_with fail
      go_ret2
      obtain ⟨A', c', rfl, h1, h2, h3⟩ := hown.slr hIs.out
      rw [hst.out]
      exact ⟨A', c', rfl, h1, h2, h3, hown.fresh_at, hB⟩
end Go.Proofs.YtnnephifjikkdaaGreatDoor
