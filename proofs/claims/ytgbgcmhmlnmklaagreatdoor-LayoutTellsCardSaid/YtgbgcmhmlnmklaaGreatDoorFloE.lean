
/- Floors: where one gets in a direction. -/
import Derived.Test.YtgbgcmhmlnmklaaGreatDoorFloD
set_option linter.unusedSimpArgs false
set_option linter.unusedVariables false
namespace Go.Proofs.YtgbgcmhmlnmklaaGreatDoor
open Go.RowKit Go.IntWalk

theorem and1_bit (o : Int) (dn : Nat) (h0 : 0 ≤ o) (h1 : o ≤ 63) : bits .and .i64 (o / 2^dn) 1 = o / 2^dn % 2 := by
  obtain ⟨m, rfl⟩ := Int.eq_ofNat_of_zero_le h0
  have h : m / 2^dn ≤ m := Nat.div_le_self _ _
  have e : ((m:Int) / 2^dn) = ((m / 2^dn : Nat) : Int) := by simp
  rw [e, show (1:Int) = ((1:Nat):Int) from rfl, i64_and_nat _ _ (by omega) (by omega), Nat.and_one_is_mod]
  simp
theorem getD_at {l : List Int} {k : Nat} (h : k < l.length) : l.getD k 0 = l[k] := by simp [List.getD, List.getElem?_eq_getElem h]
set_option maxRecDepth 100000 in
set_option maxHeartbeats 4000000 in
theorem next_any (W H D : Int) (Ak Ao : Option Addr) (ck co : Nat) (kind out : List Int) (c d : Int) (w : World) (h : RF W H D kind out) (hk : SlR w w.heap.size Ak kind) (ho : SlR w w.heap.size Ao out) :
    Calls Tryz.prog 64 #[.agg #[.int .i64 W, .int .i64 H, .int .i64 D, .slice Ak kind.length ck, .slice Ao out.length co], .int .i64 c, .int .i64 d] w fun e w' => e = .returned (nextV (nextL W H D kind out c d)) ∧ Below w.heap.size w w' := by
  have hb0 : Below w.heap.size w (w.alloc (Obj.cells #[Value.int .i64 W, Value.int .i64 H, Value.int .i64 D, Value.slice Ak kind.length ck, Value.slice Ao out.length co] 24)) := (Below.refl _ w).alloc (Nat.le_refl _) _
  have hs := h.s
  have hbi := fun hb => besideL_in (c := c) (d := d) hs hb
  obtain ⟨nb, hnb⟩ : ∃ nb, nb = besideL W H D c d := ⟨_, rfl⟩
  rw [← hnb] at hbi
  have Hnb := hid hnb
  clear hnb
  have hkl := hid h.k
  have hol := hid h.o
  have hkr := hid h.kr
  have hor := hid h.orr
  clear h
  go_enter Tryz.func64, Tryz.ntmps64
  go_wp2_with fail
  refine (beside_any _ _ _ _ _ _ _ _ _ c d _ hs).mono ?_
  rintro e w1 ⟨rfl, hB⟩
  have bx := (Blk.new w _ _).below hB (by simp)
  have hb1 := hb0.trans (hB.mono (by simp))
  obtain ⟨k0, k1, k2, k3, k4⟩ := blk5 bx
  rw [← Hnb.out]
  clear hB hb0
  by_cases hn : nb < 0
  · have hr := hid (show nextL W H D kind out c d = none by rw [nextL, ← Hnb.out, if_pos hn])
    clear hbi
    go_wp2
    go_ret2
    rw [hr.out]
    exact ⟨rfl, hb1⟩
  · obtain ⟨n1, c0, c1, d0, d1⟩ := hbi (by omega)
    clear hbi
    obtain ⟨cn, rfl⟩ := Int.eq_ofNat_of_zero_le c0
    obtain ⟨dn, rfl⟩ := Int.eq_ofNat_of_zero_le d0
    obtain ⟨n, rfl⟩ := Int.eq_ofNat_of_zero_le (show 0 ≤ nb by omega)
    have lc : cn < kind.length := by have := hkl.out; omega
    have ln : n < kind.length := by have := hkl.out; omega
    have lo : cn < out.length := by have := hol.out; omega
    obtain ⟨b, off, rfl, hbB, g1, _⟩ := (hk.below hb1).int lc
    have g2 := (hk.below hb1).int_at ln
    obtain ⟨b', off', rfl, hbB', g3, _⟩ := (ho.below hb1).int lo
    have ob := hor.out _ (List.getElem_mem lo)
    have ea := and1_bit out[cn] dn ob.1 ob.2
    have v1 : kind.getD cn 0 = kind[cn] := getD_at lc
    have v2 : kind.getD n 0 = kind[n] := getD_at ln
    have v3 : out.getD cn 0 = out[cn] := getD_at lo
    have hnx := hid (show nextL W H D kind out cn dn = (if kind[cn] = 0 then none else if kind[n] = 0 then none else if out[cn] / 2^dn % 2 = 0 then none else if ((dn:Int) = 4 ∨ (dn:Int) = 5) ∧ (kind[cn] ≠ 6 ∨ kind[n] ≠ 6) then none else some (n:Int)) by
      rw [nextL, ← Hnb.out, if_neg (by omega)]; simp only [Int.toNat_natCast, v1, v2, v3])
    clear v1 v2 v3
    obtain ⟨kc, hkc⟩ : ∃ kc, kc = kind[cn] := ⟨_, rfl⟩
    obtain ⟨kn, hkn⟩ : ∃ kn, kn = kind[n] := ⟨_, rfl⟩
    obtain ⟨oc, hoc⟩ : ∃ oc, oc = out[cn] := ⟨_, rfl⟩
    rw [← hkc] at g1 hnx
    rw [← hkn] at g2 hnx
    rw [← hoc] at g3 hnx ea ob
    clear hkc hkn hoc
    obtain ⟨bt, hbt⟩ : ∃ bt, bt = oc / 2^dn % 2 := ⟨_, rfl⟩
    rw [← hbt] at hnx ea
    clear hbt
    have i1 : (cn:Int) < kind.length := by omega
    have i2 : (n:Int) < kind.length := by omega
    have i3 : (cn:Int) < out.length := by omega
    by_cases a1 : kc = 0
    · have e1 : (kc == (0:Int)) = true := by simp; omega
      have hr := hid (show nextL W H D kind out cn dn = none by rw [hnx.out]; simp [a1])
      clear hnx a1
      go_wp2
      go_ret2
      rw [hr.out]
      exact ⟨rfl, hb1⟩
    have e1 : (kc == 0) = false := by simp [a1]
    by_cases a2 : kn = 0
    · have e2 : (kn == (0:Int)) = true := by simp; omega
      have hr := hid (show nextL W H D kind out cn dn = none by rw [hnx.out]; simp [a1, a2])
      clear hnx a1 a2
      go_wp2
      go_ret2
      rw [hr.out]
      exact ⟨rfl, hb1⟩
    have e2 : (kn == 0) = false := by simp [a2]
    by_cases a3 : bt = 0
    · have e3 : (bt == (0:Int)) = true := by simp; omega
      have hr := hid (show nextL W H D kind out cn dn = none by rw [hnx.out]; simp [a1, a2, a3])
      clear hnx a1 a2 a3
      go_wp2
      go_ret2
      rw [hr.out]
      exact ⟨rfl, hb1⟩
    have e3 : (bt == 0) = false := by simp [a3]
    by_cases a4 : (dn:Int) = 4 ∨ (dn:Int) = 5
    · by_cases a5 : kc = 6
      · by_cases a6 : kn = 6
        · rcases a4 with a4 | a4
          · have d4 : ((dn:Int) == (4:Int)) = true := by simp; omega
            have e5 : (kc != (6:Int)) = false := by simp; omega
            have e6 : (kn != (6:Int)) = false := by simp; omega
            have hr := hid (show nextL W H D kind out cn dn = some (n:Int) by rw [hnx.out]; simp [a1, a2, a3, a5, a6, a4])
            clear hnx a1 a2 a3 a5 a6 a4
            go_wp2
            go_ret2
            rw [hr.out]
            exact ⟨rfl, hb1⟩
          · have d4 : ((dn:Int) == 4) = false := by simp; omega
            have d5 : ((dn:Int) == (5:Int)) = true := by simp; omega
            have e5 : (kc != (6:Int)) = false := by simp; omega
            have e6 : (kn != (6:Int)) = false := by simp; omega
            have hr := hid (show nextL W H D kind out cn dn = some (n:Int) by rw [hnx.out]; simp [a1, a2, a3, a5, a6, a4])
            clear hnx a1 a2 a3 a5 a6 a4
            go_wp2
            go_ret2
            rw [hr.out]
            exact ⟨rfl, hb1⟩
        · rcases a4 with a4 | a4
          · have d4 : ((dn:Int) == (4:Int)) = true := by simp; omega
            have e5 : (kc != (6:Int)) = false := by simp; omega
            have e6 : (kn != 6) = true := by simp [a6]
            have hr := hid (show nextL W H D kind out cn dn = none by rw [hnx.out]; simp [a1, a2, a3, a5, a6, a4])
            clear hnx a1 a2 a3 a5 a6 a4
            go_wp2
            go_ret2
            rw [hr.out]
            exact ⟨rfl, hb1⟩
          · have d4 : ((dn:Int) == 4) = false := by simp; omega
            have d5 : ((dn:Int) == (5:Int)) = true := by simp; omega
            have e5 : (kc != (6:Int)) = false := by simp; omega
            have e6 : (kn != 6) = true := by simp [a6]
            have hr := hid (show nextL W H D kind out cn dn = none by rw [hnx.out]; simp [a1, a2, a3, a5, a6, a4])
            clear hnx a1 a2 a3 a5 a6 a4
            go_wp2
            go_ret2
            rw [hr.out]
            exact ⟨rfl, hb1⟩
      · rcases a4 with a4 | a4
        · have d4 : ((dn:Int) == (4:Int)) = true := by simp; omega
          have e5 : (kc != 6) = true := by simp [a5]
          have hr := hid (show nextL W H D kind out cn dn = none by rw [hnx.out]; simp [a1, a2, a3, a5, a4])
          clear hnx a1 a2 a3 a5 a4
          go_wp2
          go_ret2
          rw [hr.out]
          exact ⟨rfl, hb1⟩
        · have d4 : ((dn:Int) == 4) = false := by simp; omega
          have d5 : ((dn:Int) == (5:Int)) = true := by simp; omega
          have e5 : (kc != 6) = true := by simp [a5]
          have hr := hid (show nextL W H D kind out cn dn = none by rw [hnx.out]; simp [a1, a2, a3, a5, a4])
          clear hnx a1 a2 a3 a5 a4
          go_wp2
          go_ret2
          rw [hr.out]
          exact ⟨rfl, hb1⟩
    · have d4 : ((dn:Int) == 4) = false := by simp; omega
      have d5 : ((dn:Int) == 5) = false := by simp; omega
      have hr := hid (show nextL W H D kind out cn dn = some (n:Int) by rw [hnx.out]; simp [a1, a2, a3, a4])
      clear hnx a1 a2 a3 a4
      go_wp2
      go_ret2
      rw [hr.out]
      exact ⟨rfl, hb1⟩

end Go.Proofs.YtgbgcmhmlnmklaaGreatDoor
