
/- Lease: the reference's New. -/
import Derived.Test.YtappgjdnfllblaaDoorLrA
set_option linter.unusedSimpArgs false
set_option linter.unusedVariables false
namespace Go.Proofs.YtappgjdnfllblaaDoor
open Go.RowKit Go.IntWalk Go.Maps Go.WideMaps
def zn0 (h : Int) : Zn := (h, 0, 0, false, 0, 0, 0)
theorem zonesL_new (me : Int) (home : List Int) : zonesL (newD me home) = home.map zn0 := by
  apply List.ext_getElem
  · simp [zonesL_len, newD]
  · intro k h1 h2
    rw [zonesL_at _ h1]
    have hk : k < home.length := by simpa using h2
    simp only [zoneOf, newD, lEnds, List.getElem_map, zn0, List.getD, List.getElem?_eq_getElem hk, Option.getD_some]
    rfl
def NewRL (w : World) (r : Option LDk) (e : Ending) (w' : World) : Prop :=
  match r with
  | some d => ∃ b v, e = .returned (.pointer (some ⟨b, 0, none⟩)) ∧ RLd w' w.heap.size b v d ∧ Below w.heap.size w w'
  | none => e = .returned (.pointer none) ∧ Below w.heap.size w w'
theorem zn0_take {home : List Int} {k : Nat} (hk : k < home.length) : (home.take (k + 1)).map zn0 = (home.take k).map zn0 ++ [zn0 home[k]] := by
  rw [List.take_succ_eq_append_getElem hk, List.map_append]; rfl
theorem bsl_zone (w : World) (v0 v1 v2 v3 v4 v5 v6 : Value) : (Instr.buildSlice 50 1 #[(0, .agg #[v0, v1, v2, v3, v4, v5, v6])]).run Tryd.prog w = .ok (.slice (some ⟨w.heap.size, 0, none⟩) 1 1) (w.alloc (Obj.cells #[v0, v1, v2, v3, v4, v5, v6] 90)) := by kernel_rfl
theorem bslS {F : Fence} {n0 : Nat} {o : Oper} {a : Act} {w : World} {K : Act → World → Prop} {Q : Exit → Act → World → Prop} (hF : ∀ f, F.fn f) (x : Operand) {v0 v1 v2 v3 v4 v5 v6 : Value}
    (ho : o.op = .buildSlice 50 1 #[(0, x)]) (hx : a.eval x = .agg #[v0, v1, v2, v3, v4, v5, v6])
    (h : K (a.put o.dst (.slice (some ⟨w.heap.size, 0, none⟩) 1 1)) (w.alloc (Obj.cells #[v0, v1, v2, v3, v4, v5, v6] 90))) : Oper.wpIn F n0 Tryd.prog o a w K Q := by
  refine uponIn_of_value (v := .slice (some ⟨w.heap.size, 0, none⟩) 1 1) (w' := w.alloc (Obj.cells #[v0, v1, v2, v3, v4, v5, v6] 90)) hF (by rw [ho]; intro c hc; cases hc) ?_ h
  unfold execOp
  simp only [ho, Sem.run_bind, Sem.run_pure, Result.andThen_ok, List.map_toArray, List.map_cons, List.map_nil, hx, bsl_zone]
set_option maxRecDepth 100000 in
set_option maxHeartbeats 4000000 in
theorem rnew_any (me : Int) (A : Option Addr) (c : Nat) (home : List Int) (w : World) (hi : I64 me) (hc : home.length ≤ c) (hm : c ≤ maxLen) (hs : SlR w w.heap.size A home) :
    Calls Tryd.prog 21 #[.int .i64 me, .slice A home.length c] w (NewRL w (newDk me home)) := by
  by_cases h0 : me = 0 ∨ me = 1
  case neg =>
    have hr : newDk me home = none := by unfold newDk; rw [if_neg (fun h => h0 h.1)]
    rw [hr]
    have h1 : (me == 0) = false := by simp; omega
    have h2 : (me == 1) = false := by simp; omega
    have h3 : me ≠ 0 := by omega
    have h4 : me ≠ 1 := by omega
    clear hs hr h0
    go_enter Tryd.func21, Tryd.ntmps21
    go_wp2_with fail
    go_ret
    exact ⟨rfl, Below.refl _ _⟩
  by_cases hl : home.length ≤ 64
  case neg =>
    have hr : newDk me home = none := by unfold newDk; rw [if_neg (fun h => hl h.2.1)]
    rw [hr]
    have hl2 : (64 : Int) < (home.length : Int) := by omega
    clear hs hr
    rcases h0 with rfl | rfl
    all_goals
      go_enter Tryd.func21, Tryd.ntmps21
      go_wp2_with fail
      go_ret
      exact ⟨rfl, Below.refl _ _⟩
  have HS := hid hs
  have hl2 : ¬ (64 : Int) < (home.length : Int) := by omega
  have HR := hid (show (∀ x ∈ home, x = 0 ∨ x = 1) → newDk me home = some (newD me home) by intro h; unfold newDk; rw [if_pos ⟨h0, hl, h⟩])
  have HN := hid (show ∀ (k : Nat) (hk : k < home.length), home[k] ≠ 0 → home[k] ≠ 1 → newDk me home = none by
    intro k hk a b
    unfold newDk
    rw [if_neg]
    rintro ⟨_, _, h⟩
    rcases h _ (List.getElem_mem hk) with e | e
    · exact a e
    · exact b e)
  have HZ := hid (zonesL_new me home)
  have HT := hid (fun (k : Nat) (hk : k < home.length) => zn0_take hk)
  generalize hres : newDk me home = res at *
  clear hs hres hc hm
  rcases h0 with rfl | rfl
  · as_aux_lemma =>
      go_enter Tryd.func21, Tryd.ntmps21
      go_upto_region 4 with fail
      have X0 := hid (Blk.new w 52 #[.int .i64 0, .slice none 0 0])
      have B0 := hid (show Below w.heap.size w (w.alloc (Obj.cells #[.int .i64 0, .slice none 0 0] 52)) by (repeat (first | exact Below.refl _ _ | assumption | refine below_drewN ?_ _ | refine Below.drew ?_ | refine Below.alloc ?_ (by (try simp); (try omega)) _ | refine Below.setCell ?_ (by (try simp); (try omega)) _)))
      generalize (w.alloc (Obj.cells #[.int .i64 0, .slice none 0 0] 52)) = w1 at *
      obtain ⟨bx, hbx⟩ : ∃ bx, bx = w.heap.size := ⟨_, rfl⟩
      rw [← hbx] at X0 ⊢
      have HBX := hid hbx
      clear hbx
      go_wp2_with fail
      go_loopw [6] (fun iv wr => ∃ (k : Nat) (v : Value), k ≤ home.length ∧ iv = .int .i64 (k : Nat) ∧ (∀ x ∈ home.take k, x = 0 ∨ x = 1) ∧ Blk wr bx 52 #[.int .i64 0, v] ∧ znRK.Own wr w.heap.size v ((home.take k).map zn0) ∧ Below w.heap.size w wr) (fun iv _ => home.length - (intOf iv).toNat)
      case atStart => exact ⟨0, .slice none 0 0, by omega, rfl, by simp, X0.out, RK.Own.nil, B0.out⟩
      case round =>
        clear X0 B0
        obtain ⟨k, v, hk, rfl, hall, hX, hO, hB⟩ := hrel
        have HA := hid hall
        have XB := hid hX
        have OB := hid hO
        have BB := hid hB
        clear hall hX hO hB
        by_cases hlt : k < home.length
        · have hlt' : (k : Int) < home.length := by omega
          obtain ⟨ba, oa, rfl, hba, hca, hia⟩ := HS.out.int hlt
          have HC := hid hca
          have hk1 : wrap64 ((k : Int) + 1) = ((k + 1 : Nat) : Int) := by rw [wrap64_in _ (by omega)]; simp
          replace hca := (bcell BB.out ba _ hba).trans hca
          have HNk := hid (HN.out k hlt)
          have HTk := hid (HT.out k hlt)
          have HAk := hid (show home[k] = 0 ∨ home[k] = 1 → ∀ x ∈ home.take (k + 1), x = 0 ∨ x = 1 by
            intro h x hx
            rw [List.take_succ_eq_append_getElem hlt] at hx
            rcases List.mem_append.1 hx with hx | hx
            · exact HA.out x hx
            · rw [List.mem_singleton.1 hx]; exact h)
          have hlen := hid (show ((home.take k).map zn0).length = k by simp; omega)
          clear HA
          generalize home[k] = x at *
          by_cases hx : x = 0 ∨ x = 1
          case neg =>
            have e := HNk.out (fun e => hx (.inl e)) (fun e => hx (.inr e))
            subst e
            have hx0 : (x == 0) = false := by simp; omega
            have hx1 : (x == 1) = false := by simp; omega
            have hn0 : (x != 0) = true := by simp; omega
            have hn1 : (x != 1) = true := by simp; omega
            have hx2 : x ≠ 0 := by omega
            have hx3 : x ≠ 1 := by omega
            clear hx HC HNk HTk HAk hia
            go_wp2_with fail
            go_ret
            exact ⟨rfl, BB.out⟩
          have HA2 := hid (HAk.out hx)
          have hx9 := hid hx
          clear HNk HAk hx
          obtain ⟨A1, c1, rfl⟩ := OB.out.form
          rw [hlen.out] at XB OB
          have hcb := XB.out.cell 0
          have hcv := XB.out.cell 1
          have fzb := XB.out.frozen
          simp at hcb hcv
          rcases hx9.out with rfl | rfl
          · as_aux_lemma =>
              go_upto_region 9 with fail
              clear hcb hcv fzb
              have XD := hid (XB.out.drew)
              have OD := hid (OB.out.drew)
              have BD := hid (BB.out.drew)
              have hca2 : wr.drew.cell? ⟨ba, oa + k, none⟩ = some (.int .i64 0) := hca
              have hS0 := And.intro (show wr.drew.cell? ⟨bx, 1, none⟩ = some (.slice A1 k c1) from XD.out.cell 1) hca2
              have HSF := hid (fun (wq : World) (hq : wq.cell? ⟨bx, 1, none⟩ = some (.slice A1 k c1) ∧ wq.cell? ⟨ba, oa + k, none⟩ = some (.int .i64 0)) => hq)
              refine wpIn_wide.1 (wpIn_region_S (n := 0) (fun wq => wq.cell? ⟨bx, 1, none⟩ = some (.slice A1 k c1) ∧ wq.cell? ⟨ba, oa + k, none⟩ = some (.int .i64 0)) [11, 14] (by kernel_rfl) hS0 (fun hHeld => ?_))
              clear hS0 XB OB BB hca hca2
              have hbaw := hid hba
              generalize wr.drew = w2 at *
              refine wpAnyS_pure 0 (v := ?_) (fun _ => trivial) (by simp only [List.getElem?_toArray, List.getElem?_cons_succ, List.getElem?_cons_zero]; rfl) (by kernel_rfl) (fun _ _ _ _ _ h => h) ⟨rfl, (by intro c h; cases h), ?_⟩ hHeld ?_
              rotate_left
              focus (intro wS hSw; (try replace hSw := HSF.out wS hSw); (try dsimp only at hSw); go_simp; (try with_reducible rfl))
              (try simp only [Act.put, List.setIfInBounds_toArray, List.set_cons_zero, List.set_cons_succ])
              refine wpAnyS_pure 1 (v := ?_) (fun _ => trivial) (by simp only [List.getElem?_toArray, List.getElem?_cons_succ, List.getElem?_cons_zero]; rfl) (by kernel_rfl) (fun _ _ _ _ _ h => h) ⟨rfl, (by intro c h; cases h), ?_⟩ hHeld ?_
              rotate_left
              focus (intro wS hSw; (try replace hSw := HSF.out wS hSw); (try dsimp only at hSw); go_simp; (try with_reducible rfl))
              (try simp only [Act.put, List.setIfInBounds_toArray, List.set_cons_zero, List.set_cons_succ])
              refine wpAnyS_pure 2 (v := ?_) (fun _ => trivial) (by simp only [List.getElem?_toArray, List.getElem?_cons_succ, List.getElem?_cons_zero]; rfl) (by kernel_rfl) (fun _ _ _ _ _ h => h) ⟨rfl, (by intro c h; cases h), ?_⟩ hHeld ?_
              rotate_left
              focus (intro wS hSw; (try replace hSw := HSF.out wS hSw); (try dsimp only at hSw); go_simp; (try with_reducible rfl))
              (try simp only [Act.put, List.setIfInBounds_toArray, List.set_cons_zero, List.set_cons_succ])
              refine wpAnyS_pure 3 (v := ?_) (fun _ => trivial) (by simp only [List.getElem?_toArray, List.getElem?_cons_succ, List.getElem?_cons_zero]; rfl) (by kernel_rfl) (fun _ _ _ _ _ h => h) ⟨rfl, (by intro c h; cases h), ?_⟩ hHeld ?_
              rotate_left
              focus (intro wS hSw; (try replace hSw := HSF.out wS hSw); (try dsimp only at hSw); go_simp; (try with_reducible rfl))
              (try simp only [Act.put, List.setIfInBounds_toArray, List.set_cons_zero, List.set_cons_succ])
              refine wpAnyS_take 4 (v := ?_) (fun _ => trivial) (by simp only [List.getElem?_toArray, List.getElem?_cons_succ, List.getElem?_cons_zero]; rfl) (by kernel_rfl) (fun _ _ _ _ _ h => h) ⟨rfl, (by intro c h; cases h), ?_⟩ hHeld ?_
              rotate_left
              focus (intro wS hSw; (try replace hSw := HSF.out wS hSw); (try dsimp only at hSw); go_simp; (try with_reducible rfl))
              (try simp only [Act.put, List.setIfInBounds_toArray, List.set_cons_zero, List.set_cons_succ])
              refine wpAnyS_pure 5 (v := ?_) (fun _ => trivial) (by simp only [List.getElem?_toArray, List.getElem?_cons_succ, List.getElem?_cons_zero]; rfl) (by kernel_rfl) (fun _ _ _ _ _ h => h) ⟨rfl, (by intro c h; cases h), ?_⟩ hHeld ?_
              rotate_left
              focus (intro wS hSw; (try replace hSw := HSF.out wS hSw); (try dsimp only at hSw); go_simp; (try with_reducible rfl))
              (try simp only [Act.put, List.setIfInBounds_toArray, List.set_cons_zero, List.set_cons_succ])
              refine wpAnyS_pure 6 (v := ?_) (fun _ => trivial) (by simp only [List.getElem?_toArray, List.getElem?_cons_succ, List.getElem?_cons_zero]; rfl) (by kernel_rfl) (fun _ _ _ _ _ h => h) ⟨rfl, (by intro c h; cases h), ?_⟩ hHeld ?_
              rotate_left
              focus (intro wS hSw; (try replace hSw := HSF.out wS hSw); (try dsimp only at hSw); go_simp; (try with_reducible rfl))
              (try simp only [Act.put, List.setIfInBounds_toArray, List.set_cons_zero, List.set_cons_succ])
              refine wpAnyS_pure 7 (v := ?_) (fun _ => trivial) (by simp only [List.getElem?_toArray, List.getElem?_cons_succ, List.getElem?_cons_zero]; rfl) (by kernel_rfl) (fun _ _ _ _ _ h => h) ⟨rfl, (by intro c h; cases h), ?_⟩ hHeld ?_
              rotate_left
              focus (intro wS hSw; (try replace hSw := HSF.out wS hSw); (try dsimp only at hSw); go_simp; (try with_reducible rfl))
              (try simp only [Act.put, List.setIfInBounds_toArray, List.set_cons_zero, List.set_cons_succ])
              refine wpAnyS_take 8 (v := ?_) (fun _ => trivial) (by simp only [List.getElem?_toArray, List.getElem?_cons_succ, List.getElem?_cons_zero]; rfl) (by kernel_rfl) (fun _ _ _ _ _ h => h) ⟨rfl, (by intro c h; cases h), ?_⟩ hHeld ?_
              rotate_left
              focus (intro wS hSw; (try replace hSw := HSF.out wS hSw); (try dsimp only at hSw); go_simp; (try with_reducible rfl))
              (try simp only [Act.put, List.setIfInBounds_toArray, List.set_cons_zero, List.set_cons_succ])
              refine wpAnyS_pure 9 (v := ?_) (fun _ => trivial) (by simp only [List.getElem?_toArray, List.getElem?_cons_succ, List.getElem?_cons_zero]; rfl) (by kernel_rfl) (fun _ _ _ _ _ h => h) ⟨rfl, (by intro c h; cases h), ?_⟩ hHeld ?_
              rotate_left
              focus (intro wS hSw; (try replace hSw := HSF.out wS hSw); (try dsimp only at hSw); go_simp; (try with_reducible rfl))
              (try simp only [Act.put, List.setIfInBounds_toArray, List.set_cons_zero, List.set_cons_succ])
              refine wpAnyS_ready [10] (by kernel_rfl) (by simp) (AllReadyS.cons (by simp only [List.getElem?_toArray, List.getElem?_cons_succ, List.getElem?_cons_zero]; rfl) rfl (fun K hK => ?_) AllReadyS.nil)
              refine bslS (fun _ => trivial) (.tmp 48) rfl rfl ?_
              have ba1 := hid (show Below w2.heap.size w2 (w2.alloc (Obj.cells #[.int .i64 0, .int .i64 0, .int .i64 0, .bool false, .int .i64 0, .int .i64 0, .int .i64 0] 90)) by (repeat (first | exact Below.refl _ _ | assumption | refine below_drewN ?_ _ | refine Below.drew ?_ | refine Below.alloc ?_ (by (try simp); (try omega)) _ | refine Below.setCell ?_ (by (try simp); (try omega)) _)))
              have SA := hid (znRK.blk (l := [zn0 0]) (Blk.new w2 90 #[.int .i64 0, .int .i64 0, .int .i64 0, .bool false, .int .i64 0, .int .i64 0, .int .i64 0]) (by intro e he; simp only [List.mem_singleton] at he; subst he; simp [znRK, znI, zn0, I64]))
              have X3 := hid (XD.out.below ba1.out XD.out.lt)
              have O3 := hid (OD.out.below ba1.out)
              have B3 := hid (BD.out.trans (ba1.out.mono BD.out.size))
              refine hK.out _ _ ⟨by exact X3.out.cell 1, by have h1 := hHeld.2; have h2 := BD.out.size; exact (bcell ba1.out ba _ (by have := hbaw.out; omega)).trans h1⟩ ?_
              clear hK K hHeld XD OD BD ba1
              (try simp only [Act.put, List.setIfInBounds_toArray, List.set_cons_zero, List.set_cons_succ])
              generalize w2.heap.size = gA at *
              generalize (w2.alloc (Obj.cells #[.int .i64 0, .int .i64 0, .int .i64 0, .bool false, .int .i64 0, .int .i64 0, .int .i64 0] 90)) = w3 at *
              refine wpAnyS_ready [11] (by kernel_rfl) (by simp) (AllReadyS.consL (by simp only [List.getElem?_toArray, List.getElem?_cons_succ, List.getElem?_cons_zero]; rfl) rfl (by kernel_rfl) (fun K hK => ?_) AllReadyS.nil)
              have hl9 := hid (show ((home.take k).map zn0).length + ([zn0 0] : List Zn).length ≤ 100000000 by rw [hlen.out, List.length_singleton]; omega)
              refine znRK.appS (fun _ => trivial) (.tmp 43) (.tmp 49) rfl rfl O3.out (ys := [zn0 0]) (c := 1) rfl SA.out hl9.out B3.out.size ?_
              intro A4 c4 w4 ho4 hg4
              rw [hlen.out, List.length_singleton] at ho4 ⊢
              have B4 := hid (show Below w.heap.size w w4 from B3.out.grown hg4 B3.out.size (fun g hg => (own_blk O3.out g hg).1))
              have X4 := hid (show Blk w4 bx 52 #[.int .i64 0, .slice A1 k c1] from X3.out.grown hg4 (fun e => by
                obtain ⟨-, cs, hb⟩ := own_blk O3.out bx e.symm
                exact Blk.ne_ hb X3.out (by decide) rfl))
              have O4 := hid (show znRK.Own w4 w.heap.size (.slice A4 (k + 1) c4) ((home.take (k + 1)).map zn0) by rw [HTk.out]; exact ho4)
              refine hK.out _ _ ?_
              clear hK K ho4 hg4 X3 O3 B3 SA HTk
              (try simp only [Act.put, List.setIfInBounds_toArray, List.set_cons_zero, List.set_cons_succ])
              refine wpAnyS_pureL 12 (v := ?_) (fun _ => trivial) (by simp only [List.getElem?_toArray, List.getElem?_cons_succ, List.getElem?_cons_zero]; rfl) (by kernel_rfl) (by kernel_rfl) (fun _ _ _ _ _ h => h) ⟨rfl, (by intro c h; cases h), ?_⟩ ?_
              rotate_left
              focus (intro wS hSw; (try replace hSw := HSF.out wS hSw); (try dsimp only at hSw); go_simp; (try with_reducible rfl))
              (try simp only [Act.put, List.setIfInBounds_toArray, List.set_cons_zero, List.set_cons_succ])
              refine wpAnyS_pureL 13 (v := ?_) (fun _ => trivial) (by simp only [List.getElem?_toArray, List.getElem?_cons_succ, List.getElem?_cons_zero]; rfl) (by kernel_rfl) (by kernel_rfl) (fun _ _ _ _ _ h => h) ⟨rfl, (by intro c h; cases h), ?_⟩ ?_
              rotate_left
              focus (intro wS hSw; (try replace hSw := HSF.out wS hSw); (try dsimp only at hSw); go_simp; (try with_reducible rfl))
              (try simp only [Act.put, List.setIfInBounds_toArray, List.set_cons_zero, List.set_cons_succ])
              have fz := X4.out.frozen; have lt4 := X4.out.lt; have c40 := X4.out.cell 1
              simp at c40
              refine wpAnyS_ready [14] (by kernel_rfl) (by simp) (AllReadyS.consL (by simp only [List.getElem?_toArray, List.getElem?_cons_succ, List.getElem?_cons_zero]; rfl) rfl (by kernel_rfl) (fun K hK => ?_) AllReadyS.nil)
              go_simp
              have X5 := hid (X4.out.set_ 1 (.slice A4 (k + 1) c4))
              have hb9 := hid (show Below w.heap.size w (w4.setCell ⟨bx, 1, none⟩ (.slice A4 (k + 1) c4)) from B4.out.setCell (p := ⟨bx, 1, none⟩) (by have := HBX.out; simp; omega) _)
              have O5 := hid (show znRK.Own (w4.setCell ⟨bx, 1, none⟩ (.slice A4 (k + 1) c4)) w.heap.size (.slice A4 (k + 1) c4) ((home.take (k + 1)).map zn0) from own_kept O4.out (fun g cs hv hb => hb.far (fun e => by subst e; exact Blk.ne_ hb X4.out (by decide) rfl) _))
              simp at X5
              refine hK.out _ _ ?_
              clear hK K X4 O4 B4 fz lt4 c40
              (try simp only [Act.put, List.setIfInBounds_toArray, List.set_cons_zero, List.set_cons_succ])
              generalize (w4.setCell ⟨bx, 1, none⟩ (.slice A4 (k + 1) c4)) = w5 at *
              refine wpAnyS_done (by kernel_rfl) ?_
              clear HSF
              go_wp2_with fail
              go_roundw
              case rel => exact ⟨k + 1, .slice A4 (k + 1) c4, by omega, by simp [hk1], HA2.out, X5.out, O5.out, hb9.out⟩
              case measure => simp [intOf, hk1]; omega
          · as_aux_lemma =>
              go_upto_region 9 with fail
              clear hcb hcv fzb
              have XD := hid (XB.out.drew)
              have OD := hid (OB.out.drew)
              have BD := hid (BB.out.drew)
              have hca2 : wr.drew.cell? ⟨ba, oa + k, none⟩ = some (.int .i64 1) := hca
              have hS0 := And.intro (show wr.drew.cell? ⟨bx, 1, none⟩ = some (.slice A1 k c1) from XD.out.cell 1) hca2
              have HSF := hid (fun (wq : World) (hq : wq.cell? ⟨bx, 1, none⟩ = some (.slice A1 k c1) ∧ wq.cell? ⟨ba, oa + k, none⟩ = some (.int .i64 1)) => hq)
              refine wpIn_wide.1 (wpIn_region_S (n := 0) (fun wq => wq.cell? ⟨bx, 1, none⟩ = some (.slice A1 k c1) ∧ wq.cell? ⟨ba, oa + k, none⟩ = some (.int .i64 1)) [11, 14] (by kernel_rfl) hS0 (fun hHeld => ?_))
              clear hS0 XB OB BB hca hca2
              have hbaw := hid hba
              generalize wr.drew = w2 at *
              refine wpAnyS_pure 0 (v := ?_) (fun _ => trivial) (by simp only [List.getElem?_toArray, List.getElem?_cons_succ, List.getElem?_cons_zero]; rfl) (by kernel_rfl) (fun _ _ _ _ _ h => h) ⟨rfl, (by intro c h; cases h), ?_⟩ hHeld ?_
              rotate_left
              focus (intro wS hSw; (try replace hSw := HSF.out wS hSw); (try dsimp only at hSw); go_simp; (try with_reducible rfl))
              (try simp only [Act.put, List.setIfInBounds_toArray, List.set_cons_zero, List.set_cons_succ])
              refine wpAnyS_pure 1 (v := ?_) (fun _ => trivial) (by simp only [List.getElem?_toArray, List.getElem?_cons_succ, List.getElem?_cons_zero]; rfl) (by kernel_rfl) (fun _ _ _ _ _ h => h) ⟨rfl, (by intro c h; cases h), ?_⟩ hHeld ?_
              rotate_left
              focus (intro wS hSw; (try replace hSw := HSF.out wS hSw); (try dsimp only at hSw); go_simp; (try with_reducible rfl))
              (try simp only [Act.put, List.setIfInBounds_toArray, List.set_cons_zero, List.set_cons_succ])
              refine wpAnyS_pure 2 (v := ?_) (fun _ => trivial) (by simp only [List.getElem?_toArray, List.getElem?_cons_succ, List.getElem?_cons_zero]; rfl) (by kernel_rfl) (fun _ _ _ _ _ h => h) ⟨rfl, (by intro c h; cases h), ?_⟩ hHeld ?_
              rotate_left
              focus (intro wS hSw; (try replace hSw := HSF.out wS hSw); (try dsimp only at hSw); go_simp; (try with_reducible rfl))
              (try simp only [Act.put, List.setIfInBounds_toArray, List.set_cons_zero, List.set_cons_succ])
              refine wpAnyS_pure 3 (v := ?_) (fun _ => trivial) (by simp only [List.getElem?_toArray, List.getElem?_cons_succ, List.getElem?_cons_zero]; rfl) (by kernel_rfl) (fun _ _ _ _ _ h => h) ⟨rfl, (by intro c h; cases h), ?_⟩ hHeld ?_
              rotate_left
              focus (intro wS hSw; (try replace hSw := HSF.out wS hSw); (try dsimp only at hSw); go_simp; (try with_reducible rfl))
              (try simp only [Act.put, List.setIfInBounds_toArray, List.set_cons_zero, List.set_cons_succ])
              refine wpAnyS_take 4 (v := ?_) (fun _ => trivial) (by simp only [List.getElem?_toArray, List.getElem?_cons_succ, List.getElem?_cons_zero]; rfl) (by kernel_rfl) (fun _ _ _ _ _ h => h) ⟨rfl, (by intro c h; cases h), ?_⟩ hHeld ?_
              rotate_left
              focus (intro wS hSw; (try replace hSw := HSF.out wS hSw); (try dsimp only at hSw); go_simp; (try with_reducible rfl))
              (try simp only [Act.put, List.setIfInBounds_toArray, List.set_cons_zero, List.set_cons_succ])
              refine wpAnyS_pure 5 (v := ?_) (fun _ => trivial) (by simp only [List.getElem?_toArray, List.getElem?_cons_succ, List.getElem?_cons_zero]; rfl) (by kernel_rfl) (fun _ _ _ _ _ h => h) ⟨rfl, (by intro c h; cases h), ?_⟩ hHeld ?_
              rotate_left
              focus (intro wS hSw; (try replace hSw := HSF.out wS hSw); (try dsimp only at hSw); go_simp; (try with_reducible rfl))
              (try simp only [Act.put, List.setIfInBounds_toArray, List.set_cons_zero, List.set_cons_succ])
              refine wpAnyS_pure 6 (v := ?_) (fun _ => trivial) (by simp only [List.getElem?_toArray, List.getElem?_cons_succ, List.getElem?_cons_zero]; rfl) (by kernel_rfl) (fun _ _ _ _ _ h => h) ⟨rfl, (by intro c h; cases h), ?_⟩ hHeld ?_
              rotate_left
              focus (intro wS hSw; (try replace hSw := HSF.out wS hSw); (try dsimp only at hSw); go_simp; (try with_reducible rfl))
              (try simp only [Act.put, List.setIfInBounds_toArray, List.set_cons_zero, List.set_cons_succ])
              refine wpAnyS_pure 7 (v := ?_) (fun _ => trivial) (by simp only [List.getElem?_toArray, List.getElem?_cons_succ, List.getElem?_cons_zero]; rfl) (by kernel_rfl) (fun _ _ _ _ _ h => h) ⟨rfl, (by intro c h; cases h), ?_⟩ hHeld ?_
              rotate_left
              focus (intro wS hSw; (try replace hSw := HSF.out wS hSw); (try dsimp only at hSw); go_simp; (try with_reducible rfl))
              (try simp only [Act.put, List.setIfInBounds_toArray, List.set_cons_zero, List.set_cons_succ])
              refine wpAnyS_take 8 (v := ?_) (fun _ => trivial) (by simp only [List.getElem?_toArray, List.getElem?_cons_succ, List.getElem?_cons_zero]; rfl) (by kernel_rfl) (fun _ _ _ _ _ h => h) ⟨rfl, (by intro c h; cases h), ?_⟩ hHeld ?_
              rotate_left
              focus (intro wS hSw; (try replace hSw := HSF.out wS hSw); (try dsimp only at hSw); go_simp; (try with_reducible rfl))
              (try simp only [Act.put, List.setIfInBounds_toArray, List.set_cons_zero, List.set_cons_succ])
              refine wpAnyS_pure 9 (v := ?_) (fun _ => trivial) (by simp only [List.getElem?_toArray, List.getElem?_cons_succ, List.getElem?_cons_zero]; rfl) (by kernel_rfl) (fun _ _ _ _ _ h => h) ⟨rfl, (by intro c h; cases h), ?_⟩ hHeld ?_
              rotate_left
              focus (intro wS hSw; (try replace hSw := HSF.out wS hSw); (try dsimp only at hSw); go_simp; (try with_reducible rfl))
              (try simp only [Act.put, List.setIfInBounds_toArray, List.set_cons_zero, List.set_cons_succ])
              refine wpAnyS_ready [10] (by kernel_rfl) (by simp) (AllReadyS.cons (by simp only [List.getElem?_toArray, List.getElem?_cons_succ, List.getElem?_cons_zero]; rfl) rfl (fun K hK => ?_) AllReadyS.nil)
              refine bslS (fun _ => trivial) (.tmp 48) rfl rfl ?_
              have ba1 := hid (show Below w2.heap.size w2 (w2.alloc (Obj.cells #[.int .i64 1, .int .i64 0, .int .i64 0, .bool false, .int .i64 0, .int .i64 0, .int .i64 0] 90)) by (repeat (first | exact Below.refl _ _ | assumption | refine below_drewN ?_ _ | refine Below.drew ?_ | refine Below.alloc ?_ (by (try simp); (try omega)) _ | refine Below.setCell ?_ (by (try simp); (try omega)) _)))
              have SA := hid (znRK.blk (l := [zn0 1]) (Blk.new w2 90 #[.int .i64 1, .int .i64 0, .int .i64 0, .bool false, .int .i64 0, .int .i64 0, .int .i64 0]) (by intro e he; simp only [List.mem_singleton] at he; subst he; simp [znRK, znI, zn0, I64]))
              have X3 := hid (XD.out.below ba1.out XD.out.lt)
              have O3 := hid (OD.out.below ba1.out)
              have B3 := hid (BD.out.trans (ba1.out.mono BD.out.size))
              refine hK.out _ _ ⟨by exact X3.out.cell 1, by have h1 := hHeld.2; have h2 := BD.out.size; exact (bcell ba1.out ba _ (by have := hbaw.out; omega)).trans h1⟩ ?_
              clear hK K hHeld XD OD BD ba1
              (try simp only [Act.put, List.setIfInBounds_toArray, List.set_cons_zero, List.set_cons_succ])
              generalize w2.heap.size = gA at *
              generalize (w2.alloc (Obj.cells #[.int .i64 1, .int .i64 0, .int .i64 0, .bool false, .int .i64 0, .int .i64 0, .int .i64 0] 90)) = w3 at *
              refine wpAnyS_ready [11] (by kernel_rfl) (by simp) (AllReadyS.consL (by simp only [List.getElem?_toArray, List.getElem?_cons_succ, List.getElem?_cons_zero]; rfl) rfl (by kernel_rfl) (fun K hK => ?_) AllReadyS.nil)
              have hl9 := hid (show ((home.take k).map zn0).length + ([zn0 1] : List Zn).length ≤ 100000000 by rw [hlen.out, List.length_singleton]; omega)
              refine znRK.appS (fun _ => trivial) (.tmp 43) (.tmp 49) rfl rfl O3.out (ys := [zn0 1]) (c := 1) rfl SA.out hl9.out B3.out.size ?_
              intro A4 c4 w4 ho4 hg4
              rw [hlen.out, List.length_singleton] at ho4 ⊢
              have B4 := hid (show Below w.heap.size w w4 from B3.out.grown hg4 B3.out.size (fun g hg => (own_blk O3.out g hg).1))
              have X4 := hid (show Blk w4 bx 52 #[.int .i64 0, .slice A1 k c1] from X3.out.grown hg4 (fun e => by
                obtain ⟨-, cs, hb⟩ := own_blk O3.out bx e.symm
                exact Blk.ne_ hb X3.out (by decide) rfl))
              have O4 := hid (show znRK.Own w4 w.heap.size (.slice A4 (k + 1) c4) ((home.take (k + 1)).map zn0) by rw [HTk.out]; exact ho4)
              refine hK.out _ _ ?_
              clear hK K ho4 hg4 X3 O3 B3 SA HTk
              (try simp only [Act.put, List.setIfInBounds_toArray, List.set_cons_zero, List.set_cons_succ])
              refine wpAnyS_pureL 12 (v := ?_) (fun _ => trivial) (by simp only [List.getElem?_toArray, List.getElem?_cons_succ, List.getElem?_cons_zero]; rfl) (by kernel_rfl) (by kernel_rfl) (fun _ _ _ _ _ h => h) ⟨rfl, (by intro c h; cases h), ?_⟩ ?_
              rotate_left
              focus (intro wS hSw; (try replace hSw := HSF.out wS hSw); (try dsimp only at hSw); go_simp; (try with_reducible rfl))
              (try simp only [Act.put, List.setIfInBounds_toArray, List.set_cons_zero, List.set_cons_succ])
              refine wpAnyS_pureL 13 (v := ?_) (fun _ => trivial) (by simp only [List.getElem?_toArray, List.getElem?_cons_succ, List.getElem?_cons_zero]; rfl) (by kernel_rfl) (by kernel_rfl) (fun _ _ _ _ _ h => h) ⟨rfl, (by intro c h; cases h), ?_⟩ ?_
              rotate_left
              focus (intro wS hSw; (try replace hSw := HSF.out wS hSw); (try dsimp only at hSw); go_simp; (try with_reducible rfl))
              (try simp only [Act.put, List.setIfInBounds_toArray, List.set_cons_zero, List.set_cons_succ])
              have fz := X4.out.frozen; have lt4 := X4.out.lt; have c40 := X4.out.cell 1
              simp at c40
              refine wpAnyS_ready [14] (by kernel_rfl) (by simp) (AllReadyS.consL (by simp only [List.getElem?_toArray, List.getElem?_cons_succ, List.getElem?_cons_zero]; rfl) rfl (by kernel_rfl) (fun K hK => ?_) AllReadyS.nil)
              go_simp
              have X5 := hid (X4.out.set_ 1 (.slice A4 (k + 1) c4))
              have hb9 := hid (show Below w.heap.size w (w4.setCell ⟨bx, 1, none⟩ (.slice A4 (k + 1) c4)) from B4.out.setCell (p := ⟨bx, 1, none⟩) (by have := HBX.out; simp; omega) _)
              have O5 := hid (show znRK.Own (w4.setCell ⟨bx, 1, none⟩ (.slice A4 (k + 1) c4)) w.heap.size (.slice A4 (k + 1) c4) ((home.take (k + 1)).map zn0) from own_kept O4.out (fun g cs hv hb => hb.far (fun e => by subst e; exact Blk.ne_ hb X4.out (by decide) rfl) _))
              simp at X5
              refine hK.out _ _ ?_
              clear hK K X4 O4 B4 fz lt4 c40
              (try simp only [Act.put, List.setIfInBounds_toArray, List.set_cons_zero, List.set_cons_succ])
              generalize (w4.setCell ⟨bx, 1, none⟩ (.slice A4 (k + 1) c4)) = w5 at *
              refine wpAnyS_done (by kernel_rfl) ?_
              clear HSF
              go_wp2_with fail
              go_roundw
              case rel => exact ⟨k + 1, .slice A4 (k + 1) c4, by omega, by simp [hk1], HA2.out, X5.out, O5.out, hb9.out⟩
              case measure => simp [intOf, hk1]; omega
        · obtain rfl : k = home.length := by omega
          clear hlt
          have e := HR.out (by have := HA.out; rwa [List.take_of_length_le (Nat.le_refl _)] at this)
          subst e
          have O2 := OB.out
          rw [List.take_of_length_le (Nat.le_refl _), ← HZ.out] at O2
          have O3 := hid O2
          clear O2 HS HN HT HR HA
          go_wp2_with fail
          go_ret
          exact ⟨bx, v, rfl, ⟨XB.out, O3.out, by have := HBX.out; omega⟩, BB.out⟩
  · as_aux_lemma =>
      go_enter Tryd.func21, Tryd.ntmps21
      go_upto_region 4 with fail
      have X0 := hid (Blk.new w 52 #[.int .i64 1, .slice none 0 0])
      have B0 := hid (show Below w.heap.size w (w.alloc (Obj.cells #[.int .i64 1, .slice none 0 0] 52)) by (repeat (first | exact Below.refl _ _ | assumption | refine below_drewN ?_ _ | refine Below.drew ?_ | refine Below.alloc ?_ (by (try simp); (try omega)) _ | refine Below.setCell ?_ (by (try simp); (try omega)) _)))
      generalize (w.alloc (Obj.cells #[.int .i64 1, .slice none 0 0] 52)) = w1 at *
      obtain ⟨bx, hbx⟩ : ∃ bx, bx = w.heap.size := ⟨_, rfl⟩
      rw [← hbx] at X0 ⊢
      have HBX := hid hbx
      clear hbx
      go_wp2_with fail
      go_loopw [6] (fun iv wr => ∃ (k : Nat) (v : Value), k ≤ home.length ∧ iv = .int .i64 (k : Nat) ∧ (∀ x ∈ home.take k, x = 0 ∨ x = 1) ∧ Blk wr bx 52 #[.int .i64 1, v] ∧ znRK.Own wr w.heap.size v ((home.take k).map zn0) ∧ Below w.heap.size w wr) (fun iv _ => home.length - (intOf iv).toNat)
      case atStart => exact ⟨0, .slice none 0 0, by omega, rfl, by simp, X0.out, RK.Own.nil, B0.out⟩
      case round =>
        clear X0 B0
        obtain ⟨k, v, hk, rfl, hall, hX, hO, hB⟩ := hrel
        have HA := hid hall
        have XB := hid hX
        have OB := hid hO
        have BB := hid hB
        clear hall hX hO hB
        by_cases hlt : k < home.length
        · have hlt' : (k : Int) < home.length := by omega
          obtain ⟨ba, oa, rfl, hba, hca, hia⟩ := HS.out.int hlt
          have HC := hid hca
          have hk1 : wrap64 ((k : Int) + 1) = ((k + 1 : Nat) : Int) := by rw [wrap64_in _ (by omega)]; simp
          replace hca := (bcell BB.out ba _ hba).trans hca
          have HNk := hid (HN.out k hlt)
          have HTk := hid (HT.out k hlt)
          have HAk := hid (show home[k] = 0 ∨ home[k] = 1 → ∀ x ∈ home.take (k + 1), x = 0 ∨ x = 1 by
            intro h x hx
            rw [List.take_succ_eq_append_getElem hlt] at hx
            rcases List.mem_append.1 hx with hx | hx
            · exact HA.out x hx
            · rw [List.mem_singleton.1 hx]; exact h)
          have hlen := hid (show ((home.take k).map zn0).length = k by simp; omega)
          clear HA
          generalize home[k] = x at *
          by_cases hx : x = 0 ∨ x = 1
          case neg =>
            have e := HNk.out (fun e => hx (.inl e)) (fun e => hx (.inr e))
            subst e
            have hx0 : (x == 0) = false := by simp; omega
            have hx1 : (x == 1) = false := by simp; omega
            have hn0 : (x != 0) = true := by simp; omega
            have hn1 : (x != 1) = true := by simp; omega
            have hx2 : x ≠ 0 := by omega
            have hx3 : x ≠ 1 := by omega
            clear hx HC HNk HTk HAk hia
            go_wp2_with fail
            go_ret
            exact ⟨rfl, BB.out⟩
          have HA2 := hid (HAk.out hx)
          have hx9 := hid hx
          clear HNk HAk hx
          obtain ⟨A1, c1, rfl⟩ := OB.out.form
          rw [hlen.out] at XB OB
          have hcb := XB.out.cell 0
          have hcv := XB.out.cell 1
          have fzb := XB.out.frozen
          simp at hcb hcv
          rcases hx9.out with rfl | rfl
          · as_aux_lemma =>
              go_upto_region 9 with fail
              clear hcb hcv fzb
              have XD := hid (XB.out.drew)
              have OD := hid (OB.out.drew)
              have BD := hid (BB.out.drew)
              have hca2 : wr.drew.cell? ⟨ba, oa + k, none⟩ = some (.int .i64 0) := hca
              have hS0 := And.intro (show wr.drew.cell? ⟨bx, 1, none⟩ = some (.slice A1 k c1) from XD.out.cell 1) hca2
              have HSF := hid (fun (wq : World) (hq : wq.cell? ⟨bx, 1, none⟩ = some (.slice A1 k c1) ∧ wq.cell? ⟨ba, oa + k, none⟩ = some (.int .i64 0)) => hq)
              refine wpIn_wide.1 (wpIn_region_S (n := 0) (fun wq => wq.cell? ⟨bx, 1, none⟩ = some (.slice A1 k c1) ∧ wq.cell? ⟨ba, oa + k, none⟩ = some (.int .i64 0)) [11, 14] (by kernel_rfl) hS0 (fun hHeld => ?_))
              clear hS0 XB OB BB hca hca2
              have hbaw := hid hba
              generalize wr.drew = w2 at *
              refine wpAnyS_pure 0 (v := ?_) (fun _ => trivial) (by simp only [List.getElem?_toArray, List.getElem?_cons_succ, List.getElem?_cons_zero]; rfl) (by kernel_rfl) (fun _ _ _ _ _ h => h) ⟨rfl, (by intro c h; cases h), ?_⟩ hHeld ?_
              rotate_left
              focus (intro wS hSw; (try replace hSw := HSF.out wS hSw); (try dsimp only at hSw); go_simp; (try with_reducible rfl))
              (try simp only [Act.put, List.setIfInBounds_toArray, List.set_cons_zero, List.set_cons_succ])
              refine wpAnyS_pure 1 (v := ?_) (fun _ => trivial) (by simp only [List.getElem?_toArray, List.getElem?_cons_succ, List.getElem?_cons_zero]; rfl) (by kernel_rfl) (fun _ _ _ _ _ h => h) ⟨rfl, (by intro c h; cases h), ?_⟩ hHeld ?_
              rotate_left
              focus (intro wS hSw; (try replace hSw := HSF.out wS hSw); (try dsimp only at hSw); go_simp; (try with_reducible rfl))
              (try simp only [Act.put, List.setIfInBounds_toArray, List.set_cons_zero, List.set_cons_succ])
              refine wpAnyS_pure 2 (v := ?_) (fun _ => trivial) (by simp only [List.getElem?_toArray, List.getElem?_cons_succ, List.getElem?_cons_zero]; rfl) (by kernel_rfl) (fun _ _ _ _ _ h => h) ⟨rfl, (by intro c h; cases h), ?_⟩ hHeld ?_
              rotate_left
              focus (intro wS hSw; (try replace hSw := HSF.out wS hSw); (try dsimp only at hSw); go_simp; (try with_reducible rfl))
              (try simp only [Act.put, List.setIfInBounds_toArray, List.set_cons_zero, List.set_cons_succ])
              refine wpAnyS_pure 3 (v := ?_) (fun _ => trivial) (by simp only [List.getElem?_toArray, List.getElem?_cons_succ, List.getElem?_cons_zero]; rfl) (by kernel_rfl) (fun _ _ _ _ _ h => h) ⟨rfl, (by intro c h; cases h), ?_⟩ hHeld ?_
              rotate_left
              focus (intro wS hSw; (try replace hSw := HSF.out wS hSw); (try dsimp only at hSw); go_simp; (try with_reducible rfl))
              (try simp only [Act.put, List.setIfInBounds_toArray, List.set_cons_zero, List.set_cons_succ])
              refine wpAnyS_take 4 (v := ?_) (fun _ => trivial) (by simp only [List.getElem?_toArray, List.getElem?_cons_succ, List.getElem?_cons_zero]; rfl) (by kernel_rfl) (fun _ _ _ _ _ h => h) ⟨rfl, (by intro c h; cases h), ?_⟩ hHeld ?_
              rotate_left
              focus (intro wS hSw; (try replace hSw := HSF.out wS hSw); (try dsimp only at hSw); go_simp; (try with_reducible rfl))
              (try simp only [Act.put, List.setIfInBounds_toArray, List.set_cons_zero, List.set_cons_succ])
              refine wpAnyS_pure 5 (v := ?_) (fun _ => trivial) (by simp only [List.getElem?_toArray, List.getElem?_cons_succ, List.getElem?_cons_zero]; rfl) (by kernel_rfl) (fun _ _ _ _ _ h => h) ⟨rfl, (by intro c h; cases h), ?_⟩ hHeld ?_
              rotate_left
              focus (intro wS hSw; (try replace hSw := HSF.out wS hSw); (try dsimp only at hSw); go_simp; (try with_reducible rfl))
              (try simp only [Act.put, List.setIfInBounds_toArray, List.set_cons_zero, List.set_cons_succ])
              refine wpAnyS_pure 6 (v := ?_) (fun _ => trivial) (by simp only [List.getElem?_toArray, List.getElem?_cons_succ, List.getElem?_cons_zero]; rfl) (by kernel_rfl) (fun _ _ _ _ _ h => h) ⟨rfl, (by intro c h; cases h), ?_⟩ hHeld ?_
              rotate_left
              focus (intro wS hSw; (try replace hSw := HSF.out wS hSw); (try dsimp only at hSw); go_simp; (try with_reducible rfl))
              (try simp only [Act.put, List.setIfInBounds_toArray, List.set_cons_zero, List.set_cons_succ])
              refine wpAnyS_pure 7 (v := ?_) (fun _ => trivial) (by simp only [List.getElem?_toArray, List.getElem?_cons_succ, List.getElem?_cons_zero]; rfl) (by kernel_rfl) (fun _ _ _ _ _ h => h) ⟨rfl, (by intro c h; cases h), ?_⟩ hHeld ?_
              rotate_left
              focus (intro wS hSw; (try replace hSw := HSF.out wS hSw); (try dsimp only at hSw); go_simp; (try with_reducible rfl))
              (try simp only [Act.put, List.setIfInBounds_toArray, List.set_cons_zero, List.set_cons_succ])
              refine wpAnyS_take 8 (v := ?_) (fun _ => trivial) (by simp only [List.getElem?_toArray, List.getElem?_cons_succ, List.getElem?_cons_zero]; rfl) (by kernel_rfl) (fun _ _ _ _ _ h => h) ⟨rfl, (by intro c h; cases h), ?_⟩ hHeld ?_
              rotate_left
              focus (intro wS hSw; (try replace hSw := HSF.out wS hSw); (try dsimp only at hSw); go_simp; (try with_reducible rfl))
              (try simp only [Act.put, List.setIfInBounds_toArray, List.set_cons_zero, List.set_cons_succ])
              refine wpAnyS_pure 9 (v := ?_) (fun _ => trivial) (by simp only [List.getElem?_toArray, List.getElem?_cons_succ, List.getElem?_cons_zero]; rfl) (by kernel_rfl) (fun _ _ _ _ _ h => h) ⟨rfl, (by intro c h; cases h), ?_⟩ hHeld ?_
              rotate_left
              focus (intro wS hSw; (try replace hSw := HSF.out wS hSw); (try dsimp only at hSw); go_simp; (try with_reducible rfl))
              (try simp only [Act.put, List.setIfInBounds_toArray, List.set_cons_zero, List.set_cons_succ])
              refine wpAnyS_ready [10] (by kernel_rfl) (by simp) (AllReadyS.cons (by simp only [List.getElem?_toArray, List.getElem?_cons_succ, List.getElem?_cons_zero]; rfl) rfl (fun K hK => ?_) AllReadyS.nil)
              refine bslS (fun _ => trivial) (.tmp 48) rfl rfl ?_
              have ba1 := hid (show Below w2.heap.size w2 (w2.alloc (Obj.cells #[.int .i64 0, .int .i64 0, .int .i64 0, .bool false, .int .i64 0, .int .i64 0, .int .i64 0] 90)) by (repeat (first | exact Below.refl _ _ | assumption | refine below_drewN ?_ _ | refine Below.drew ?_ | refine Below.alloc ?_ (by (try simp); (try omega)) _ | refine Below.setCell ?_ (by (try simp); (try omega)) _)))
              have SA := hid (znRK.blk (l := [zn0 0]) (Blk.new w2 90 #[.int .i64 0, .int .i64 0, .int .i64 0, .bool false, .int .i64 0, .int .i64 0, .int .i64 0]) (by intro e he; simp only [List.mem_singleton] at he; subst he; simp [znRK, znI, zn0, I64]))
              have X3 := hid (XD.out.below ba1.out XD.out.lt)
              have O3 := hid (OD.out.below ba1.out)
              have B3 := hid (BD.out.trans (ba1.out.mono BD.out.size))
              refine hK.out _ _ ⟨by exact X3.out.cell 1, by have h1 := hHeld.2; have h2 := BD.out.size; exact (bcell ba1.out ba _ (by have := hbaw.out; omega)).trans h1⟩ ?_
              clear hK K hHeld XD OD BD ba1
              (try simp only [Act.put, List.setIfInBounds_toArray, List.set_cons_zero, List.set_cons_succ])
              generalize w2.heap.size = gA at *
              generalize (w2.alloc (Obj.cells #[.int .i64 0, .int .i64 0, .int .i64 0, .bool false, .int .i64 0, .int .i64 0, .int .i64 0] 90)) = w3 at *
              refine wpAnyS_ready [11] (by kernel_rfl) (by simp) (AllReadyS.consL (by simp only [List.getElem?_toArray, List.getElem?_cons_succ, List.getElem?_cons_zero]; rfl) rfl (by kernel_rfl) (fun K hK => ?_) AllReadyS.nil)
              have hl9 := hid (show ((home.take k).map zn0).length + ([zn0 0] : List Zn).length ≤ 100000000 by rw [hlen.out, List.length_singleton]; omega)
              refine znRK.appS (fun _ => trivial) (.tmp 43) (.tmp 49) rfl rfl O3.out (ys := [zn0 0]) (c := 1) rfl SA.out hl9.out B3.out.size ?_
              intro A4 c4 w4 ho4 hg4
              rw [hlen.out, List.length_singleton] at ho4 ⊢
              have B4 := hid (show Below w.heap.size w w4 from B3.out.grown hg4 B3.out.size (fun g hg => (own_blk O3.out g hg).1))
              have X4 := hid (show Blk w4 bx 52 #[.int .i64 1, .slice A1 k c1] from X3.out.grown hg4 (fun e => by
                obtain ⟨-, cs, hb⟩ := own_blk O3.out bx e.symm
                exact Blk.ne_ hb X3.out (by decide) rfl))
              have O4 := hid (show znRK.Own w4 w.heap.size (.slice A4 (k + 1) c4) ((home.take (k + 1)).map zn0) by rw [HTk.out]; exact ho4)
              refine hK.out _ _ ?_
              clear hK K ho4 hg4 X3 O3 B3 SA HTk
              (try simp only [Act.put, List.setIfInBounds_toArray, List.set_cons_zero, List.set_cons_succ])
              refine wpAnyS_pureL 12 (v := ?_) (fun _ => trivial) (by simp only [List.getElem?_toArray, List.getElem?_cons_succ, List.getElem?_cons_zero]; rfl) (by kernel_rfl) (by kernel_rfl) (fun _ _ _ _ _ h => h) ⟨rfl, (by intro c h; cases h), ?_⟩ ?_
              rotate_left
              focus (intro wS hSw; (try replace hSw := HSF.out wS hSw); (try dsimp only at hSw); go_simp; (try with_reducible rfl))
              (try simp only [Act.put, List.setIfInBounds_toArray, List.set_cons_zero, List.set_cons_succ])
              refine wpAnyS_pureL 13 (v := ?_) (fun _ => trivial) (by simp only [List.getElem?_toArray, List.getElem?_cons_succ, List.getElem?_cons_zero]; rfl) (by kernel_rfl) (by kernel_rfl) (fun _ _ _ _ _ h => h) ⟨rfl, (by intro c h; cases h), ?_⟩ ?_
              rotate_left
              focus (intro wS hSw; (try replace hSw := HSF.out wS hSw); (try dsimp only at hSw); go_simp; (try with_reducible rfl))
              (try simp only [Act.put, List.setIfInBounds_toArray, List.set_cons_zero, List.set_cons_succ])
              have fz := X4.out.frozen; have lt4 := X4.out.lt; have c40 := X4.out.cell 1
              simp at c40
              refine wpAnyS_ready [14] (by kernel_rfl) (by simp) (AllReadyS.consL (by simp only [List.getElem?_toArray, List.getElem?_cons_succ, List.getElem?_cons_zero]; rfl) rfl (by kernel_rfl) (fun K hK => ?_) AllReadyS.nil)
              go_simp
              have X5 := hid (X4.out.set_ 1 (.slice A4 (k + 1) c4))
              have hb9 := hid (show Below w.heap.size w (w4.setCell ⟨bx, 1, none⟩ (.slice A4 (k + 1) c4)) from B4.out.setCell (p := ⟨bx, 1, none⟩) (by have := HBX.out; simp; omega) _)
              have O5 := hid (show znRK.Own (w4.setCell ⟨bx, 1, none⟩ (.slice A4 (k + 1) c4)) w.heap.size (.slice A4 (k + 1) c4) ((home.take (k + 1)).map zn0) from own_kept O4.out (fun g cs hv hb => hb.far (fun e => by subst e; exact Blk.ne_ hb X4.out (by decide) rfl) _))
              simp at X5
              refine hK.out _ _ ?_
              clear hK K X4 O4 B4 fz lt4 c40
              (try simp only [Act.put, List.setIfInBounds_toArray, List.set_cons_zero, List.set_cons_succ])
              generalize (w4.setCell ⟨bx, 1, none⟩ (.slice A4 (k + 1) c4)) = w5 at *
              refine wpAnyS_done (by kernel_rfl) ?_
              clear HSF
              go_wp2_with fail
              go_roundw
              case rel => exact ⟨k + 1, .slice A4 (k + 1) c4, by omega, by simp [hk1], HA2.out, X5.out, O5.out, hb9.out⟩
              case measure => simp [intOf, hk1]; omega
          · as_aux_lemma =>
              go_upto_region 9 with fail
              clear hcb hcv fzb
              have XD := hid (XB.out.drew)
              have OD := hid (OB.out.drew)
              have BD := hid (BB.out.drew)
              have hca2 : wr.drew.cell? ⟨ba, oa + k, none⟩ = some (.int .i64 1) := hca
              have hS0 := And.intro (show wr.drew.cell? ⟨bx, 1, none⟩ = some (.slice A1 k c1) from XD.out.cell 1) hca2
              have HSF := hid (fun (wq : World) (hq : wq.cell? ⟨bx, 1, none⟩ = some (.slice A1 k c1) ∧ wq.cell? ⟨ba, oa + k, none⟩ = some (.int .i64 1)) => hq)
              refine wpIn_wide.1 (wpIn_region_S (n := 0) (fun wq => wq.cell? ⟨bx, 1, none⟩ = some (.slice A1 k c1) ∧ wq.cell? ⟨ba, oa + k, none⟩ = some (.int .i64 1)) [11, 14] (by kernel_rfl) hS0 (fun hHeld => ?_))
              clear hS0 XB OB BB hca hca2
              have hbaw := hid hba
              generalize wr.drew = w2 at *
              refine wpAnyS_pure 0 (v := ?_) (fun _ => trivial) (by simp only [List.getElem?_toArray, List.getElem?_cons_succ, List.getElem?_cons_zero]; rfl) (by kernel_rfl) (fun _ _ _ _ _ h => h) ⟨rfl, (by intro c h; cases h), ?_⟩ hHeld ?_
              rotate_left
              focus (intro wS hSw; (try replace hSw := HSF.out wS hSw); (try dsimp only at hSw); go_simp; (try with_reducible rfl))
              (try simp only [Act.put, List.setIfInBounds_toArray, List.set_cons_zero, List.set_cons_succ])
              refine wpAnyS_pure 1 (v := ?_) (fun _ => trivial) (by simp only [List.getElem?_toArray, List.getElem?_cons_succ, List.getElem?_cons_zero]; rfl) (by kernel_rfl) (fun _ _ _ _ _ h => h) ⟨rfl, (by intro c h; cases h), ?_⟩ hHeld ?_
              rotate_left
              focus (intro wS hSw; (try replace hSw := HSF.out wS hSw); (try dsimp only at hSw); go_simp; (try with_reducible rfl))
              (try simp only [Act.put, List.setIfInBounds_toArray, List.set_cons_zero, List.set_cons_succ])
              refine wpAnyS_pure 2 (v := ?_) (fun _ => trivial) (by simp only [List.getElem?_toArray, List.getElem?_cons_succ, List.getElem?_cons_zero]; rfl) (by kernel_rfl) (fun _ _ _ _ _ h => h) ⟨rfl, (by intro c h; cases h), ?_⟩ hHeld ?_
              rotate_left
              focus (intro wS hSw; (try replace hSw := HSF.out wS hSw); (try dsimp only at hSw); go_simp; (try with_reducible rfl))
              (try simp only [Act.put, List.setIfInBounds_toArray, List.set_cons_zero, List.set_cons_succ])
              refine wpAnyS_pure 3 (v := ?_) (fun _ => trivial) (by simp only [List.getElem?_toArray, List.getElem?_cons_succ, List.getElem?_cons_zero]; rfl) (by kernel_rfl) (fun _ _ _ _ _ h => h) ⟨rfl, (by intro c h; cases h), ?_⟩ hHeld ?_
              rotate_left
              focus (intro wS hSw; (try replace hSw := HSF.out wS hSw); (try dsimp only at hSw); go_simp; (try with_reducible rfl))
              (try simp only [Act.put, List.setIfInBounds_toArray, List.set_cons_zero, List.set_cons_succ])
              refine wpAnyS_take 4 (v := ?_) (fun _ => trivial) (by simp only [List.getElem?_toArray, List.getElem?_cons_succ, List.getElem?_cons_zero]; rfl) (by kernel_rfl) (fun _ _ _ _ _ h => h) ⟨rfl, (by intro c h; cases h), ?_⟩ hHeld ?_
              rotate_left
              focus (intro wS hSw; (try replace hSw := HSF.out wS hSw); (try dsimp only at hSw); go_simp; (try with_reducible rfl))
              (try simp only [Act.put, List.setIfInBounds_toArray, List.set_cons_zero, List.set_cons_succ])
              refine wpAnyS_pure 5 (v := ?_) (fun _ => trivial) (by simp only [List.getElem?_toArray, List.getElem?_cons_succ, List.getElem?_cons_zero]; rfl) (by kernel_rfl) (fun _ _ _ _ _ h => h) ⟨rfl, (by intro c h; cases h), ?_⟩ hHeld ?_
              rotate_left
              focus (intro wS hSw; (try replace hSw := HSF.out wS hSw); (try dsimp only at hSw); go_simp; (try with_reducible rfl))
              (try simp only [Act.put, List.setIfInBounds_toArray, List.set_cons_zero, List.set_cons_succ])
              refine wpAnyS_pure 6 (v := ?_) (fun _ => trivial) (by simp only [List.getElem?_toArray, List.getElem?_cons_succ, List.getElem?_cons_zero]; rfl) (by kernel_rfl) (fun _ _ _ _ _ h => h) ⟨rfl, (by intro c h; cases h), ?_⟩ hHeld ?_
              rotate_left
              focus (intro wS hSw; (try replace hSw := HSF.out wS hSw); (try dsimp only at hSw); go_simp; (try with_reducible rfl))
              (try simp only [Act.put, List.setIfInBounds_toArray, List.set_cons_zero, List.set_cons_succ])
              refine wpAnyS_pure 7 (v := ?_) (fun _ => trivial) (by simp only [List.getElem?_toArray, List.getElem?_cons_succ, List.getElem?_cons_zero]; rfl) (by kernel_rfl) (fun _ _ _ _ _ h => h) ⟨rfl, (by intro c h; cases h), ?_⟩ hHeld ?_
              rotate_left
              focus (intro wS hSw; (try replace hSw := HSF.out wS hSw); (try dsimp only at hSw); go_simp; (try with_reducible rfl))
              (try simp only [Act.put, List.setIfInBounds_toArray, List.set_cons_zero, List.set_cons_succ])
              refine wpAnyS_take 8 (v := ?_) (fun _ => trivial) (by simp only [List.getElem?_toArray, List.getElem?_cons_succ, List.getElem?_cons_zero]; rfl) (by kernel_rfl) (fun _ _ _ _ _ h => h) ⟨rfl, (by intro c h; cases h), ?_⟩ hHeld ?_
              rotate_left
              focus (intro wS hSw; (try replace hSw := HSF.out wS hSw); (try dsimp only at hSw); go_simp; (try with_reducible rfl))
              (try simp only [Act.put, List.setIfInBounds_toArray, List.set_cons_zero, List.set_cons_succ])
              refine wpAnyS_pure 9 (v := ?_) (fun _ => trivial) (by simp only [List.getElem?_toArray, List.getElem?_cons_succ, List.getElem?_cons_zero]; rfl) (by kernel_rfl) (fun _ _ _ _ _ h => h) ⟨rfl, (by intro c h; cases h), ?_⟩ hHeld ?_
              rotate_left
              focus (intro wS hSw; (try replace hSw := HSF.out wS hSw); (try dsimp only at hSw); go_simp; (try with_reducible rfl))
              (try simp only [Act.put, List.setIfInBounds_toArray, List.set_cons_zero, List.set_cons_succ])
              refine wpAnyS_ready [10] (by kernel_rfl) (by simp) (AllReadyS.cons (by simp only [List.getElem?_toArray, List.getElem?_cons_succ, List.getElem?_cons_zero]; rfl) rfl (fun K hK => ?_) AllReadyS.nil)
              refine bslS (fun _ => trivial) (.tmp 48) rfl rfl ?_
              have ba1 := hid (show Below w2.heap.size w2 (w2.alloc (Obj.cells #[.int .i64 1, .int .i64 0, .int .i64 0, .bool false, .int .i64 0, .int .i64 0, .int .i64 0] 90)) by (repeat (first | exact Below.refl _ _ | assumption | refine below_drewN ?_ _ | refine Below.drew ?_ | refine Below.alloc ?_ (by (try simp); (try omega)) _ | refine Below.setCell ?_ (by (try simp); (try omega)) _)))
              have SA := hid (znRK.blk (l := [zn0 1]) (Blk.new w2 90 #[.int .i64 1, .int .i64 0, .int .i64 0, .bool false, .int .i64 0, .int .i64 0, .int .i64 0]) (by intro e he; simp only [List.mem_singleton] at he; subst he; simp [znRK, znI, zn0, I64]))
              have X3 := hid (XD.out.below ba1.out XD.out.lt)
              have O3 := hid (OD.out.below ba1.out)
              have B3 := hid (BD.out.trans (ba1.out.mono BD.out.size))
              refine hK.out _ _ ⟨by exact X3.out.cell 1, by have h1 := hHeld.2; have h2 := BD.out.size; exact (bcell ba1.out ba _ (by have := hbaw.out; omega)).trans h1⟩ ?_
              clear hK K hHeld XD OD BD ba1
              (try simp only [Act.put, List.setIfInBounds_toArray, List.set_cons_zero, List.set_cons_succ])
              generalize w2.heap.size = gA at *
              generalize (w2.alloc (Obj.cells #[.int .i64 1, .int .i64 0, .int .i64 0, .bool false, .int .i64 0, .int .i64 0, .int .i64 0] 90)) = w3 at *
              refine wpAnyS_ready [11] (by kernel_rfl) (by simp) (AllReadyS.consL (by simp only [List.getElem?_toArray, List.getElem?_cons_succ, List.getElem?_cons_zero]; rfl) rfl (by kernel_rfl) (fun K hK => ?_) AllReadyS.nil)
              have hl9 := hid (show ((home.take k).map zn0).length + ([zn0 1] : List Zn).length ≤ 100000000 by rw [hlen.out, List.length_singleton]; omega)
              refine znRK.appS (fun _ => trivial) (.tmp 43) (.tmp 49) rfl rfl O3.out (ys := [zn0 1]) (c := 1) rfl SA.out hl9.out B3.out.size ?_
              intro A4 c4 w4 ho4 hg4
              rw [hlen.out, List.length_singleton] at ho4 ⊢
              have B4 := hid (show Below w.heap.size w w4 from B3.out.grown hg4 B3.out.size (fun g hg => (own_blk O3.out g hg).1))
              have X4 := hid (show Blk w4 bx 52 #[.int .i64 1, .slice A1 k c1] from X3.out.grown hg4 (fun e => by
                obtain ⟨-, cs, hb⟩ := own_blk O3.out bx e.symm
                exact Blk.ne_ hb X3.out (by decide) rfl))
              have O4 := hid (show znRK.Own w4 w.heap.size (.slice A4 (k + 1) c4) ((home.take (k + 1)).map zn0) by rw [HTk.out]; exact ho4)
              refine hK.out _ _ ?_
              clear hK K ho4 hg4 X3 O3 B3 SA HTk
              (try simp only [Act.put, List.setIfInBounds_toArray, List.set_cons_zero, List.set_cons_succ])
              refine wpAnyS_pureL 12 (v := ?_) (fun _ => trivial) (by simp only [List.getElem?_toArray, List.getElem?_cons_succ, List.getElem?_cons_zero]; rfl) (by kernel_rfl) (by kernel_rfl) (fun _ _ _ _ _ h => h) ⟨rfl, (by intro c h; cases h), ?_⟩ ?_
              rotate_left
              focus (intro wS hSw; (try replace hSw := HSF.out wS hSw); (try dsimp only at hSw); go_simp; (try with_reducible rfl))
              (try simp only [Act.put, List.setIfInBounds_toArray, List.set_cons_zero, List.set_cons_succ])
              refine wpAnyS_pureL 13 (v := ?_) (fun _ => trivial) (by simp only [List.getElem?_toArray, List.getElem?_cons_succ, List.getElem?_cons_zero]; rfl) (by kernel_rfl) (by kernel_rfl) (fun _ _ _ _ _ h => h) ⟨rfl, (by intro c h; cases h), ?_⟩ ?_
              rotate_left
              focus (intro wS hSw; (try replace hSw := HSF.out wS hSw); (try dsimp only at hSw); go_simp; (try with_reducible rfl))
              (try simp only [Act.put, List.setIfInBounds_toArray, List.set_cons_zero, List.set_cons_succ])
              have fz := X4.out.frozen; have lt4 := X4.out.lt; have c40 := X4.out.cell 1
              simp at c40
              refine wpAnyS_ready [14] (by kernel_rfl) (by simp) (AllReadyS.consL (by simp only [List.getElem?_toArray, List.getElem?_cons_succ, List.getElem?_cons_zero]; rfl) rfl (by kernel_rfl) (fun K hK => ?_) AllReadyS.nil)
              go_simp
              have X5 := hid (X4.out.set_ 1 (.slice A4 (k + 1) c4))
              have hb9 := hid (show Below w.heap.size w (w4.setCell ⟨bx, 1, none⟩ (.slice A4 (k + 1) c4)) from B4.out.setCell (p := ⟨bx, 1, none⟩) (by have := HBX.out; simp; omega) _)
              have O5 := hid (show znRK.Own (w4.setCell ⟨bx, 1, none⟩ (.slice A4 (k + 1) c4)) w.heap.size (.slice A4 (k + 1) c4) ((home.take (k + 1)).map zn0) from own_kept O4.out (fun g cs hv hb => hb.far (fun e => by subst e; exact Blk.ne_ hb X4.out (by decide) rfl) _))
              simp at X5
              refine hK.out _ _ ?_
              clear hK K X4 O4 B4 fz lt4 c40
              (try simp only [Act.put, List.setIfInBounds_toArray, List.set_cons_zero, List.set_cons_succ])
              generalize (w4.setCell ⟨bx, 1, none⟩ (.slice A4 (k + 1) c4)) = w5 at *
              refine wpAnyS_done (by kernel_rfl) ?_
              clear HSF
              go_wp2_with fail
              go_roundw
              case rel => exact ⟨k + 1, .slice A4 (k + 1) c4, by omega, by simp [hk1], HA2.out, X5.out, O5.out, hb9.out⟩
              case measure => simp [intOf, hk1]; omega
        · obtain rfl : k = home.length := by omega
          clear hlt
          have e := HR.out (by have := HA.out; rwa [List.take_of_length_le (Nat.le_refl _)] at this)
          subst e
          have O2 := OB.out
          rw [List.take_of_length_le (Nat.le_refl _), ← HZ.out] at O2
          have O3 := hid O2
          clear O2 HS HN HT HR HA
          go_wp2_with fail
          go_ret
          exact ⟨bx, v, rfl, ⟨XB.out, O3.out, by have := HBX.out; omega⟩, BB.out⟩
end Go.Proofs.YtappgjdnfllblaaDoor
