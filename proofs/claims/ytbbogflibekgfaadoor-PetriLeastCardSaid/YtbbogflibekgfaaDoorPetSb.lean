
/- Petri: rows of words; the sort of all words. -/
import Derived.Test.YtbbogflibekgfaaDoorPetSa
import Derived.Shelf.SlSortCmp.NoneTotal
set_option linter.unusedSimpArgs false
set_option linter.unusedVariables false
namespace Go.Proofs.YtbbogflibekgfaaDoor
open Go.RowKit Go.IntWalk Go.Shelf Go.Sort

def wdRK : RK Nat where
  e := 52
  t := 51
  size := 1
  bytes := 8
  z := .int .u64 0
  cs x := [.int .u64 (x : Nat)]
  ok x := x < 2 ^ 64
  und := Tryd.underlying51
  info := by kernel_rfl
  zcs := rfl
  pos := by omega
  small := by omega
  len _ := rfl
  one x v hv := by simp at hv; rcases hv with rfl; rfl
  rsz := rfl
  rep w B x h := ⟨rfl, h⟩
  inv w B c x h := ⟨h.1, h.2⟩
def encW (x : Wd) : Value := .int .u64 (x.1 : Nat)
theorem wd_list : ∀ (l : List Nat), (∀ x ∈ l, x < 16384) → ∃ d : List Wd, d.map (·.1) = l
  | [], _ => ⟨[], rfl⟩
  | x :: l, h => by
    obtain ⟨d, hd⟩ := wd_list l (fun y hy => h y (List.mem_cons_of_mem _ hy))
    exact ⟨⟨x, h x (List.mem_cons_self ..)⟩ :: d, by rw [List.map_cons, hd]⟩
theorem wd_at (d : Array Wd) (j : Nat) (hj : j < d.size) : (wdRK.all (d.toList.map (·.1)))[j]? = some (encW d[j]!) := by
  have h := wdRK.all_at (d.toList.map (·.1)) j (by simpa using hj) 0 (show 0 < 1 by omega)
  rw [show wdRK.size = 1 from rfl, Nat.mul_one, Nat.add_zero] at h
  rw [h, List.getElem_map]
  have e2 : d[j]! = d.toList[j]'(by simpa using hj) := by rw [getElem!_pos d _ hj]; simp
  rw [e2]
  rfl
theorem wd_holds {w : World} {base g n c : Nat} {d : Array Wd} (h : wdRK.Own w base (.slice (some ⟨g, 0, none⟩) n c) (d.toList.map (·.1))) : Holds encW w g 0 d := by
  intro j hj
  obtain ⟨hg, _, hc, hf⟩ := h.at_ (k := j) (by simpa using hj)
  refine ⟨?_, hf _⟩
  have := hc 0 (show 0 < 1 by omega)
  rw [show wdRK.size = 1 from rfl, Nat.mul_one, Nat.add_zero] at this
  rw [Nat.zero_add, this, List.getElem_map]
  have e2 : d[j]! = d.toList[j]'(by simpa using hj) := by rw [getElem!_pos d _ hj]; simp
  rw [e2]
  rfl
theorem wd_sorted {w : World} {base g n c : Nat} {l : List Nat} (h : wdRK.Own w base (.slice (some ⟨g, 0, none⟩) n c) l) (d' : Array Wd) (hs : d'.size = l.length) (m : Nat) (os : Array Obj) :
    wdRK.Own (sortWorld encW w g 0 m d' os) base (.slice (some ⟨g, 0, none⟩) n c) (d'.toList.map (·.1)) ∧ w.grownBy (sortWorld encW w g 0 m d' os) (some g) := by
  have hh := h.2
  rcases hh with ⟨hv, -⟩ | ⟨g', cap, cur, hv, hg, hb, hc, hm, hsz, ht⟩
  · cases hv
  injection hv with hv1 hv2 hv3
  injection hv1 with hv1
  injection hv1 with hv1
  subst hv1 hv3
  have hb : Blk w g 52 cur := hb
  have hglt := hb.lt
  rw [show wdRK.size = 1 from rfl, Nat.mul_one] at hsz
  have hheap : (sortWorld encW w g 0 m d' os).heap[g]? = some (.cells (putCells encW 0 d' cur) 52 (0, 0)) := by
    have hb' : w.heap[g]? = some (.cells cur 52 (0, 0)) := hb
    unfold sortWorld grow putRow mapBlock Sort.ahead
    simp only
    rw [Array.getElem?_append_left (by simpa using hglt), Array.getElem?_modify, if_pos rfl, hb']
    rfl
  have hel : ∀ j, j < l.length → (putCells encW 0 d' cur)[j]? = (wdRK.all (d'.toList.map (·.1)))[j]? := by
    intro j hj
    have hjd : j < d'.size := by rw [hs]; exact hj
    have hjc : j < cur.size := by rw [hsz]; omega
    unfold putCells
    rw [Array.getElem?_mapIdx, Array.getElem?_eq_getElem hjc, Option.map_some, if_pos ⟨Nat.zero_le _, by omega⟩, Nat.sub_zero]
    exact (wd_at d' j hjd).symm
  refine ⟨⟨wdRK.all_len _, .inr ⟨g, c, putCells encW 0 d' cur, ?_, hg, hheap, ?_, hm, ?_, ?_⟩⟩, ?_⟩
  · rw [List.length_map, Array.length_toList, hs, hv2]
  · rw [List.length_map, Array.length_toList, hs]; exact hc
  · unfold putCells; rw [Array.size_mapIdx, hsz, show wdRK.size = 1 from rfl, Nat.mul_one]
  · refine List.ext_getElem? fun j => ?_
    rw [List.length_map, show d'.toList.length = l.length by rw [Array.length_toList, hs], show wdRK.size = 1 from rfl, Nat.mul_one]
    by_cases hj : j < l.length
    · rw [List.getElem?_take_of_lt hj, ← hel j hj]; simp
    · rw [List.getElem?_eq_none (by rw [List.length_take]; exact Nat.le_trans (Nat.min_le_left _ _) (by omega)), List.getElem?_eq_none (by rw [wdRK.all_len, List.length_map, Array.length_toList, hs]; have : wdRK.size = 1 := rfl; rw [this]; omega)]
  · refine ⟨rfl, rfl, rfl, ?_, fun k hk hne => ?_⟩
    · unfold sortWorld; rw [size_grow, size_putRow]; exact Nat.le_add_right _ _
    · have hkg : ¬ g = k := fun e => hne (by rw [e])
      unfold sortWorld grow putRow mapBlock Sort.ahead
      simp only
      rw [Array.getElem?_append_left (by simpa using hk), Array.getElem?_modify, if_neg hkg]
/-- The table's block is not the row's: behind whatever the sort has done it is there. -/
theorem env_sorted {w : World} {base g n c : Nat} {l : List Nat} (hE : Env w) (h : wdRK.Own w base (.slice (some ⟨g, 0, none⟩) n c) l) (hb : 0 < base) (d' : Array Wd) (hs : d'.size = l.length) (m : Nat) (os : Array Obj) : Env (sortWorld encW w g 0 m d' os) := by
  have hg := (wd_sorted h d' hs m os).2
  intro j hj
  have hz := hE.pos
  have h0 : (0 : Nat) ≠ g := by
    have := (World.ownsRow.lt h) g rfl
    omega
  rw [World.cell?_of_block (w := w) (a := ⟨0, j, none⟩) (hg.block 0 hz (by simpa using h0))]
  exact hE j hj
set_option maxRecDepth 100000 in
set_option maxHeartbeats 1000000 in
theorem sortw_any (base g c : Nat) (l : List Nat) (w : World) (hE : Env w) (hbz : 0 < base) (hl : l.length ≤ 1000000) (hlt : ∀ x ∈ l, x < 16384) (h : wdRK.Own w base (.slice (some ⟨g, 0, none⟩) l.length c) l) :
    Calls Tryd.prog 28 #[.slice (some ⟨g, 0, none⟩) l.length c, .func (.func 29) #[] #[]] w fun e w' => e = .returned (.tuple #[]) ∧
      ∃ l' : List Nat, l'.Perm l ∧ l'.Pairwise (fun a b => 0 ≤ cmpK b a) ∧ wdRK.Own w' base (.slice (some ⟨g, 0, none⟩) l.length c) l' ∧ w.grownBy w' (some g) := by
  have eg : ∀ args w, (callFunc 29 args).run Tryd.prog w = .ok (.enter 29 args) w := enters_of Tryd.func29 (by kernel_rfl) rfl
  obtain ⟨d, rfl⟩ := wd_list l hlt
  have hglt : g < w.heap.size := (World.ownsRow.lt h g rfl).2
  have hho : Holds encW w g 0 d.toArray := wd_holds (d := d.toArray) (by simpa using h)
  rw [List.length_map] at hl h ⊢
  have hcon := Any.slices_SortFunc laysSort encW (fun _ => rfl) cfW swoW 29 #[] g 0 c d.toArray w eg (fun m os dk hdk x y => (sipcmp_any x y _ (env_sorted hE h hbz dk (by simpa using hdk) m os)).mono (fun e w' ⟨he, hf⟩ => ⟨he, hf.grow⟩)) hho hglt (by simp; omega)
  have e0 : d.toArray.size = d.length := by simp
  rw [e0] at hcon
  refine Calls.mono (show Calls Tryd.prog 28 _ _ _ from hcon) ?_
  rintro e w' ⟨rfl, d', m, os, hp, hsd, rfl⟩
  have hsz : d'.size = d.length := by rw [hp.1]; simp
  obtain ⟨h1, h2⟩ := wd_sorted h d' (by simpa using hsz) m os
  refine ⟨rfl, d'.toList.map (·.1), ?_, ?_, h1, h2⟩
  · have := hp.2.2
    rw [Array.extract_eq_self_of_le (by omega), Array.extract_eq_self_of_le (by simp)] at this
    exact List.Perm.map _ (by simpa using this)
  · refine List.pairwise_iff_getElem.2 fun i j hi hj hij => ?_
    rw [List.length_map, Array.length_toList] at hi hj
    have := hsd i j (Nat.zero_le _) hij (by omega)
    rw [ltW, getElem!_pos d' _ hj, getElem!_pos d' _ hi] at this
    simp only [decide_eq_false_iff_not, Int.not_lt] at this
    simpa using this
theorem sortn_any (A : Option Addr) (c : Nat) (w : World) :
    Calls Tryd.prog 28 #[.slice A 0 c, .func (.func 29) #[] #[]] w fun e w' => e = .returned (.tuple #[]) ∧ w' = w :=
  AnyF.slices_SortFunc_none (P := Tryd.prog) (ρ := laysSort_ren) { laysSort with } A c _ w
end Go.Proofs.YtbbogflibekgfaaDoor
