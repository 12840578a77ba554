
/- Layouts: the contracts of the functions of package layout that the laws on ranks reach, each said by a plain function on lists. -/
import Derived.Test.YtgbgcmhmlnmklaaGreatDoorBase
import Derived.Test.YtgbgcmhmlnmklaaGreatDoorLayP
set_option linter.unusedSimpArgs false
set_option linter.unusedVariables false
namespace Go.Proofs.YtgbgcmhmlnmklaaGreatDoor
open Go.RowKit Go.IntWalk
def zero625 : Array Value := Array.replicate 625 (.int .i64 0)
theorem zero80 (w : World) : (zeroValue 65).run Tryz.prog w = .ok (.agg zero625) w := by kernel_rfl
def Tab (w : World) (g : Nat) (F : Nat → Nat → Int) : Prop :=
  ∃ cs, w.heap[g]? = some (.cells cs 65 (0,0)) ∧ cs.size = 625 ∧ ∀ i j, i < 25 → j < 25 → cs[i * 25 + j]? = some (.int .i64 (F i j))
theorem Tab.cell {w : World} {g : Nat} {F} (h : Tab w g F) (i j : Nat) (hi : i < 25) (hj : j < 25) : w.cell? ⟨g, i * 25 + j, none⟩ = some (.int .i64 (F i j)) := by
  obtain ⟨cs, hb, _, hc⟩ := h
  rw [cell_of_row w g _ cs 65 (0,0) hb]; exact hc i j hi hj
theorem Tab.frozen {w : World} {g : Nat} {F} (h : Tab w g F) (o : Nat) : w.frozen? ⟨g, o, none⟩ = false := by
  obtain ⟨cs, hb, _, hc⟩ := h
  simp [World.frozen?, hb]
theorem Tab.set {w : World} {g : Nat} {F} (h : Tab w g F) (i j : Nat) (hi : i < 25) (hj : j < 25) (v : Int) (G : Nat → Nat → Int) 
    (hG : ∀ i' j', i' < 25 → j' < 25 → G i' j' = if i' = i ∧ j' = j then v else F i' j') : Tab (w.setCell ⟨g, i * 25 + j, none⟩ (.int .i64 v)) g G := by
  obtain ⟨cs, hb, hs, hc⟩ := h
  refine ⟨cs.setIfInBounds (i*25+j) (.int .i64 v), ?_, by simp [hs], ?_⟩
  · simp [World.setCell, Array.getElem?_modify, hb]
  · intro i' j' hi' hj'
    rw [Array.getElem?_setIfInBounds, hG i' j' hi' hj']
    by_cases e : i' = i ∧ j' = j
    · obtain ⟨rfl, rfl⟩ := e
      simp [hs]; omega
    · rw [if_neg e, if_neg (by omega)]
      exact hc i' j' hi' hj'
theorem Tab.congr {w : World} {g : Nat} {F} (h : Tab w g F) (G : Nat → Nat → Int) 
    (hG : ∀ i' j', i' < 25 → j' < 25 → G i' j' = F i' j') : Tab w g G := by
  obtain ⟨cs, hb, hs, hc⟩ := h
  exact ⟨cs, hb, hs, fun i j hi hj => by rw [hG i j hi hj]; exact hc i j hi hj⟩
theorem Tab.below {w w' : World} {B g : Nat} {F} (h : Tab w g F) (hb : Below B w w') (hg : g < B) : Tab w' g F := by
  obtain ⟨cs, h1, h2⟩ := h
  exact ⟨cs, (hb.block g hg).trans h1, h2⟩
theorem Tab.alloc {w : World} {g : Nat} {F} (h : Tab w g F) (hg : g < w.heap.size) (o : Obj) : Tab (w.alloc o) g F := by
  obtain ⟨cs, h1, h2⟩ := h
  exact ⟨cs, (Below.heap_alloc w o g hg).trans h1, h2⟩
theorem Tab.far {w : World} {g : Nat} {F} (h : Tab w g F) {p : Addr} (hp : g ≠ p.block) (u : Value) : Tab (w.setCell p u) g F := by
  obtain ⟨cs, h1, h2⟩ := h
  exact ⟨cs, (Below.heap_setCell w p u g hp).trans h1, h2⟩
theorem Tab.draw {w : World} {g : Nat} {F} (h : Tab w g F) : Tab w.drew g F := h
theorem Tab.drawN {w : World} {g : Nat} {F} (h : Tab w g F) (n : Nat) : Tab (w.drewN n) g F := h
def G (n m i j : Nat) : Int := if i < n ∨ (i = n ∧ j ≤ m) then binom i j else 0
def G0 (n i j : Nat) : Int := if i < n then binom i j else 0
set_option maxRecDepth 100000 in
set_option maxHeartbeats 1000000 in
theorem choose_any (w : World) :
    Calls Tryz.prog 29 #[] w fun e w' => e = .returned (.pointer (some ⟨w.heap.size, 0, none⟩)) ∧ Tab w' w.heap.size (fun i j => binom i j) ∧ Below w.heap.size w w' ∧ w.heap.size < w'.heap.size := by
  have hb := zero80
  go_enter Tryz.func29, Tryz.ntmps29
  go_wp2_with (fail)
  clear hb
  have hT : Tab (w.alloc (Obj.cells zero625 65)) w.heap.size (G0 0) :=
    ⟨zero625, heap_alloc_new w _, by simp [zero625], fun i j hi hj => by simp only [zero625]; rw [Array.getElem?_replicate, if_pos (by omega)]; simp [G0]⟩
  have hBB : Below w.heap.size w (w.alloc (Obj.cells zero625 65)) := (Below.refl _ _).alloc (Nat.le_refl _) _
  go_loopw [2, 6] (fun n i wr => ∃ k : Nat, k ≤ 25 ∧ i = .int .i64 k ∧ Tab wr w.heap.size (G0 k) ∧ Below w.heap.size w wr ∧ w.heap.size < wr.heap.size) (fun _ i _ => 25 - (intOf i).toNat)
  case atStart => exact ⟨0, by omega, rfl, hT, hBB, by simp⟩
  case round =>
    clear hT hBB
    obtain ⟨k, hk, rfl, hT, hB, hsz⟩ := hrel
    by_cases hlt : k < 25
    · have hc := hT.cell k 0 (by omega) (by omega)
      have hf := hT.frozen
      have hd7 : decide ((k:Int) < 25) = true := by simp; omega
      rw [Nat.add_zero] at hc
      go_wp2_with fail
      clear hc hf hd7
      have hT1 := hT.set k 0 (by omega) (by omega) 1 (G k 0) (by
        intro i' j' hi hj
        simp only [G0, G]
        by_cases h : i' < k
        · rw [if_pos (by omega), if_neg (by omega), if_pos h]
        · by_cases h2 : i' = k ∧ j' ≤ 0
          · rw [if_pos (by omega), if_pos (by omega)]; obtain ⟨rfl, h2⟩ := h2; have : j' = 0 := by omega
            subst this; cases i' <;> rfl
          · rw [if_neg (by omega), if_neg (by omega), if_neg h])
      rw [Nat.add_zero] at hT1
      have hB1 : Below w.heap.size w (wr.setCell ⟨w.heap.size, k * 25, none⟩ (.int .i64 1)) := hB.setCell (Nat.le_refl _) _
      have hs1 : w.heap.size < (wr.setCell ⟨w.heap.size, k * 25, none⟩ (.int .i64 1)).heap.size := by simpa [World.setCell] using hsz
      go_loopw [3, 15] (fun _ i wr => ∃ m : Nat, m ≤ k ∧ i = .int .i64 m ∧ Tab wr w.heap.size (G k m) ∧ Below w.heap.size w wr ∧ w.heap.size < wr.heap.size) (fun _ i _ => k - (intOf i).toNat)
      case atStart => exact ⟨0, by omega, rfl, hT1, hB1, hs1⟩
      case round =>
        clear hT hB hsz hT1 hB1 hs1
        obtain ⟨m, hm, rfl, hT, hB, hsz⟩ := hrel
        by_cases hlt2 : m < k
        · obtain ⟨p, hp⟩ : ∃ p, k = p + 1 := ⟨k - 1, by omega⟩
          have e1 : IntKind.i64.wrap ((k:Int) - 1) = p := by rw [IntWalk.i64_in _ (by omega)]; omega
          have b0 : G k m p m = binom p m := by simp only [G]; rw [if_pos (by omega)]
          have b0' : G k m p (m+1) = binom p (m+1) := by simp only [G]; rw [if_pos (by omega)]
          have b3 : Hid (binom (p+1) (m+1) = binom p m + binom p (m+1)) := rfl
          have h1 := hT.cell p m (by omega) (by omega)
          have h2 := hT.cell p (m+1) (by omega) (by omega)
          have h3 := hT.cell k (m+1) (by omega) (by omega)
          have b1 := binom_le p m (by omega)
          have b2 := binom_le p (m+1) (by omega)
          have i1 : (p:Int) < 25 := by omega
          have i2 : (m:Int) < 25 := by omega
          have i3 : (k:Int) < 25 := by omega
          have i4 : (m:Int) + 1 < 25 := by omega
          have e2 : IntKind.i64.wrap ((m:Int) + 1) = m + 1 := IntWalk.i64_in _ (by omega)
          have e3 : ((m : Int) + 1).toNat = m + 1 := by omega
          have e4 : (0:Int) ≤ (m : Int) + 1 := by omega
          rw [b0] at h1
          rw [b0'] at h2
          clear b0 b0'
          have Hp := hid hp
          clear hp
          have hf := hT.frozen
          have e7 : IntKind.i64.wrap ((binom p m : Int) + binom p (m+1)) = (binom (p+1) (m+1) : Nat) := by
            rw [IntWalk.i64_in _ (by omega), b3.out]; simp
          go_wp2_with fail
          go_still_tail 25, (by kernel_rfl)
          change wpList _ _ _ _ _ wr.drew
          clear h1 h2 e1 e2 e3 e4 e7 i1 i2 i3 i4
          have h3' : wr.drew.cell? ⟨w.heap.size, k*25 + (m+1), none⟩ = _ := h3
          have hf' : wr.drew.frozen? ⟨w.heap.size, k*25 + (m+1), none⟩ = false := hf _
          have hT' : Tab wr.drew w.heap.size (G k m) := hT
          have hB' := hB.drew
          have hs' : w.heap.size < wr.drew.heap.size := hsz
          clear hf h3 hT hB hsz
          generalize wr.drew = w2 at *
          go_wp2
          go_roundw
          case rel =>
            refine ⟨m+1, by omega, by go_num, hT'.set k (m+1) (by omega) (by omega) _ _ ?_, hB'.setCell (Nat.le_refl _) _, by simpa [World.setCell] using hs'⟩
            intro i' j' hi hj
            simp only [G]
            have := Hp.out
            by_cases h : i' = k ∧ j' = m + 1
            · rw [if_pos (by omega), if_pos h]; rw [h.1, h.2, this]
            · rw [if_neg h]
              by_cases h2 : i' < k ∨ i' = k ∧ j' ≤ m
              · rw [if_pos h2, if_pos (by omega)]
              · rw [if_neg h2, if_neg (by omega)]
          case measure => simp [intOf]; omega
        · go_wp2
          go_roundw
          case rel =>
            refine ⟨k+1, by omega, by go_num, hT.congr _ ?_, hB, hsz⟩
            intro i' j' hi hj
            have : m = k := by omega
            subst this
            simp only [G0, G]
            by_cases h : i' < m ∨ i' = m ∧ j' ≤ m
            · rw [if_pos h, if_pos (by omega)]
            · rw [if_neg h]
              by_cases h3 : i' < m + 1
              · rw [if_pos h3, binom_big _ _ (by omega)]; rfl
              · rw [if_neg h3]
          case measure => simp [intOf]; omega
    · go_wp2
      go_ret
      have : k = 25 := by omega
      subst this
      exact ⟨rfl, hT.congr _ (fun i j hi hj => by simp only [G0]; rw [if_pos hi]), hB, hsz⟩
end Go.Proofs.YtgbgcmhmlnmklaaGreatDoor
