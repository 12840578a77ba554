
/- Lease: Copy. -/
import Derived.Shelf.SlMaps.Clone
import Derived.Ground.SlmcProg
import Derived.Test.YtappgjdnfllblaaDoorLzB
set_option linter.unusedSimpArgs false
set_option linter.unusedVariables false
namespace Go.Proofs.YtappgjdnfllblaaDoor
open Go.RowKit Go.IntWalk Go.Maps Go.WideMaps Go.Shelf
def laysCloneH_ren : Go.Shelf.Ren := ⟨fun | 5 => 62 | 7 => 84 | n => n, fun | 23 => 80 | 25 => 3 | 3 => 85 | 4 => 4 | 20 => 20 | n => n, fun | n => n⟩
theorem laysCloneH : Go.Proofs.SlLaysW.n5 Tryd.prog laysCloneH_ren := {
  mixed := by kernel_rfl
  f5 := ⟨Tryd.f62.name, by decide, Tryd.func62.trans (congrArg some (by kernel_rfl))⟩
  f7 := Tryd.func84.trans (congrArg some (by kernel_rfl))
  t4 := Tryd.underlying4
  a4 := Tryd.isAgg4
  z4 := Tryd.sizeOf4
  v4 := Tryd.zeroValue4
  t20 := Tryd.underlying20
  a20 := Tryd.isAgg20
  z20 := Tryd.sizeOf20
  v20 := Tryd.zeroValue20
  t23 := Tryd.underlying80
  a23 := Tryd.isAgg80
  z23 := Tryd.sizeOf80
  v23 := Tryd.zeroValue80 }
def laysCloneG_ren : Go.Shelf.Ren := ⟨fun | 5 => 63 | 7 => 84 | n => n, fun | 23 => 81 | 25 => 3 | 3 => 87 | 4 => 4 | 20 => 20 | n => n, fun | n => n⟩
theorem laysCloneG : Go.Proofs.SlLaysW.n5 Tryd.prog laysCloneG_ren := {
  mixed := by kernel_rfl
  f5 := ⟨Tryd.f63.name, by decide, Tryd.func63.trans (congrArg some (by kernel_rfl))⟩
  f7 := Tryd.func84.trans (congrArg some (by kernel_rfl))
  t4 := Tryd.underlying4
  a4 := Tryd.isAgg4
  z4 := Tryd.sizeOf4
  v4 := Tryd.zeroValue4
  t20 := Tryd.underlying20
  a20 := Tryd.isAgg20
  z20 := Tryd.sizeOf20
  v20 := Tryd.zeroValue20
  t23 := Tryd.underlying81
  a23 := Tryd.isAgg81
  z23 := Tryd.sizeOf81
  v23 := Tryd.zeroValue81 }
theorem MK.Own.clone {T : Type} {M : MK T} {w : World} {b m : Nat} {f : Int → T} {p : Int → Bool} {fn : FuncId} (h : M.Own w b f p m)
    (hc : ∀ (k : TypeId) (R : Value → Option (DataW Unit × List MemPlace)) (b n : Nat) (D : DataW Unit) (w : World), w.ownsMap Tryd.prog k R b n D → Calls Tryd.prog fn #[.map (some b)] w fun e w' => e = .returned (.map (some w.heap.size)) ∧ w'.ownsMap Tryd.prog k R w.heap.size n D ∧ w'.ownsMap Tryd.prog k R b n D ∧ Below w.heap.size w w') :
    Calls Tryd.prog fn #[.map (some b)] w fun e w' => e = .returned (.map (some w.heap.size)) ∧ M.Own w' w.heap.size f p m ∧ Below w.heap.size w w' := by
  obtain ⟨D, n, h1, h2, h3, h4⟩ := h
  exact (hc _ _ b n D w h1).mono fun e w' ⟨a1, a2, a3, a4⟩ => ⟨a1, ⟨D, n, a2, h2, h3, h4⟩, a4⟩
theorem cloneH_any {w : World} {b m : Nat} {f : Int → Ho} {p : Int → Bool} (h : hostK.Own w b f p m) : Calls Tryd.prog 62 #[.map (some b)] w fun e w' => e = .returned (.map (some w.heap.size)) ∧ hostK.Own w' w.heap.size f p m ∧ Below w.heap.size w w' :=
  h.clone (fun k R b n D w hw => AnyW.maps_Clone_owns laysCloneH k R b n D w hw)
theorem cloneG_any {w : World} {b m : Nat} {f : Int → Gu} {p : Int → Bool} (h : guestK.Own w b f p m) : Calls Tryd.prog 63 #[.map (some b)] w fun e w' => e = .returned (.map (some w.heap.size)) ∧ guestK.Own w' w.heap.size f p m ∧ Below w.heap.size w w' :=
  h.clone (fun k R b n D w hw => AnyW.maps_Clone_owns laysCloneG k R b n D w hw)
set_option maxRecDepth 100000 in
set_option maxHeartbeats 2000000 in
theorem lcopy_any {w : World} {base b : Nat} {v : Value} {mh mg : Nat} {d : LDk} (h : Ld w base b v mh mg d) (ok : d.Ok) : Calls Tryd.prog 15 #[.pointer (some ⟨b, 0, none⟩)] w (NewL w (some d)) := by
  obtain ⟨A, c, e, hcc, hcm, hS⟩ := h.r.slr (fun x hx => by rcases ok.hm x hx with e | e <;> rw [e] <;> simp [I64])
  subst e
  have hlen := hid (show d.home.length ≤ 65536 by have := ok.len; omega)
  have HC := hid (fun W (hW : Below w.heap.size w W) => sclone_own A c d.home W hlen.out ((hS.below hW).more hW.size))
  have HHc := hid (fun W (hW : Below w.heap.size w W) => cloneH_any (h.below hW).h)
  have HGc := hid (fun W (hW : Below w.heap.size w W) => cloneG_any (h.below hW).g)
  have HSF := hid (fun (wq : World) (hq : Below w.heap.size w wq) => (h.below hq).at_)
  have BD := hid ((Below.refl w.heap.size w).drew)
  clear hS hcc hcm ok h
  go_enter Tryd.func15, Tryd.ntmps15
  go_upto_region 1 with fail
  refine wpIn_wide.1 (wpIn_region_S (n := 0) (fun wq => Below w.heap.size w wq) [] (by kernel_rfl) BD.out (fun hHeld => ?_))
  generalize w.drew = wd at *
  refine wpAnyS_pure 0 (v := ?_) (fun _ => trivial) (by simp only [List.getElem?_toArray, List.getElem?_cons_succ, List.getElem?_cons_zero]; rfl) (by kernel_rfl) (fun _ _ _ _ _ h => h) ⟨rfl, (by intro c h; cases h), ?_⟩ hHeld ?_
  rotate_left
  focus (intro wS hSw; (try replace hSw := HSF.out wS hSw); (try dsimp only at hSw); go_simp; (try with_reducible rfl))
  (try simp only [Act.put, List.setIfInBounds_toArray, List.set_cons_zero, List.set_cons_succ])
  refine wpAnyS_pure 1 (v := ?_) (fun _ => trivial) (by simp only [List.getElem?_toArray, List.getElem?_cons_succ, List.getElem?_cons_zero]; rfl) (by kernel_rfl) (fun _ _ _ _ _ h => h) ⟨rfl, (by intro c h; cases h), ?_⟩ hHeld ?_
  rotate_left
  focus (intro wS hSw; (try replace hSw := HSF.out wS hSw); (try dsimp only at hSw); go_simp; (try with_reducible rfl))
  (try simp only [Act.put, List.setIfInBounds_toArray, List.set_cons_zero, List.set_cons_succ])
  refine wpAnyS_pure 2 (v := ?_) (fun _ => trivial) (by simp only [List.getElem?_toArray, List.getElem?_cons_succ, List.getElem?_cons_zero]; rfl) (by kernel_rfl) (fun _ _ _ _ _ h => h) ⟨rfl, (by intro c h; cases h), ?_⟩ hHeld ?_
  rotate_left
  focus (intro wS hSw; (try replace hSw := HSF.out wS hSw); (try dsimp only at hSw); go_simp; (try with_reducible rfl))
  (try simp only [Act.put, List.setIfInBounds_toArray, List.set_cons_zero, List.set_cons_succ])
  refine wpAnyS_take 3 (v := ?_) (fun _ => trivial) (by simp only [List.getElem?_toArray, List.getElem?_cons_succ, List.getElem?_cons_zero]; rfl) (by kernel_rfl) (fun _ _ _ _ _ h => h) ⟨rfl, (by intro c h; cases h), ?_⟩ hHeld ?_
  rotate_left
  focus (intro wS hSw; (try replace hSw := HSF.out wS hSw); (try dsimp only at hSw); go_simp; (try with_reducible rfl))
  (try simp only [Act.put, List.setIfInBounds_toArray, List.set_cons_zero, List.set_cons_succ])
  refine wpAnyS_pure 4 (v := ?_) (fun _ => trivial) (by simp only [List.getElem?_toArray, List.getElem?_cons_succ, List.getElem?_cons_zero]; rfl) (by kernel_rfl) (fun _ _ _ _ _ h => h) ⟨rfl, (by intro c h; cases h), ?_⟩ hHeld ?_
  rotate_left
  focus (intro wS hSw; (try replace hSw := HSF.out wS hSw); (try dsimp only at hSw); go_simp; (try with_reducible rfl))
  (try simp only [Act.put, List.setIfInBounds_toArray, List.set_cons_zero, List.set_cons_succ])
  refine wpAnyS_pure 5 (v := ?_) (fun _ => trivial) (by simp only [List.getElem?_toArray, List.getElem?_cons_succ, List.getElem?_cons_zero]; rfl) (by kernel_rfl) (fun _ _ _ _ _ h => h) ⟨rfl, (by intro c h; cases h), ?_⟩ hHeld ?_
  rotate_left
  focus (intro wS hSw; (try replace hSw := HSF.out wS hSw); (try dsimp only at hSw); go_simp; (try with_reducible rfl))
  (try simp only [Act.put, List.setIfInBounds_toArray, List.set_cons_zero, List.set_cons_succ])
  refine wpAnyS_pure 6 (v := ?_) (fun _ => trivial) (by simp only [List.getElem?_toArray, List.getElem?_cons_succ, List.getElem?_cons_zero]; rfl) (by kernel_rfl) (fun _ _ _ _ _ h => h) ⟨rfl, (by intro c h; cases h), ?_⟩ hHeld ?_
  rotate_left
  focus (intro wS hSw; (try replace hSw := HSF.out wS hSw); (try dsimp only at hSw); go_simp; (try with_reducible rfl))
  (try simp only [Act.put, List.setIfInBounds_toArray, List.set_cons_zero, List.set_cons_succ])
  refine wpAnyS_take 7 (v := ?_) (fun _ => trivial) (by simp only [List.getElem?_toArray, List.getElem?_cons_succ, List.getElem?_cons_zero]; rfl) (by kernel_rfl) (fun _ _ _ _ _ h => h) ⟨rfl, (by intro c h; cases h), ?_⟩ hHeld ?_
  rotate_left
  focus (intro wS hSw; (try replace hSw := HSF.out wS hSw); (try dsimp only at hSw); go_simp; (try with_reducible rfl))
  (try simp only [Act.put, List.setIfInBounds_toArray, List.set_cons_zero, List.set_cons_succ])
  refine wpAnyS_pure 9 (v := ?_) (fun _ => trivial) (by simp only [List.getElem?_toArray, List.getElem?_cons_succ, List.getElem?_cons_zero]; rfl) (by kernel_rfl) (fun _ _ _ _ _ h => h) ⟨rfl, (by intro c h; cases h), ?_⟩ hHeld ?_
  rotate_left
  focus (intro wS hSw; (try replace hSw := HSF.out wS hSw); (try dsimp only at hSw); go_simp; (try with_reducible rfl))
  (try simp only [Act.put, List.setIfInBounds_toArray, List.set_cons_zero, List.set_cons_succ])
  refine wpAnyS_pure 10 (v := ?_) (fun _ => trivial) (by simp only [List.getElem?_toArray, List.getElem?_cons_succ, List.getElem?_cons_zero]; rfl) (by kernel_rfl) (fun _ _ _ _ _ h => h) ⟨rfl, (by intro c h; cases h), ?_⟩ hHeld ?_
  rotate_left
  focus (intro wS hSw; (try replace hSw := HSF.out wS hSw); (try dsimp only at hSw); go_simp; (try with_reducible rfl))
  (try simp only [Act.put, List.setIfInBounds_toArray, List.set_cons_zero, List.set_cons_succ])
  refine wpAnyS_pure 11 (v := ?_) (fun _ => trivial) (by simp only [List.getElem?_toArray, List.getElem?_cons_succ, List.getElem?_cons_zero]; rfl) (by kernel_rfl) (fun _ _ _ _ _ h => h) ⟨rfl, (by intro c h; cases h), ?_⟩ hHeld ?_
  rotate_left
  focus (intro wS hSw; (try replace hSw := HSF.out wS hSw); (try dsimp only at hSw); go_simp; (try with_reducible rfl))
  (try simp only [Act.put, List.setIfInBounds_toArray, List.set_cons_zero, List.set_cons_succ])
  refine wpAnyS_take 12 (v := ?_) (fun _ => trivial) (by simp only [List.getElem?_toArray, List.getElem?_cons_succ, List.getElem?_cons_zero]; rfl) (by kernel_rfl) (fun _ _ _ _ _ h => h) ⟨rfl, (by intro c h; cases h), ?_⟩ hHeld ?_
  rotate_left
  focus (intro wS hSw; (try replace hSw := HSF.out wS hSw); (try dsimp only at hSw); go_simp; (try with_reducible rfl))
  (try simp only [Act.put, List.setIfInBounds_toArray, List.set_cons_zero, List.set_cons_succ])
  refine wpAnyS_pure 14 (v := ?_) (fun _ => trivial) (by simp only [List.getElem?_toArray, List.getElem?_cons_succ, List.getElem?_cons_zero]; rfl) (by kernel_rfl) (fun _ _ _ _ _ h => h) ⟨rfl, (by intro c h; cases h), ?_⟩ hHeld ?_
  rotate_left
  focus (intro wS hSw; (try replace hSw := HSF.out wS hSw); (try dsimp only at hSw); go_simp; (try with_reducible rfl))
  (try simp only [Act.put, List.setIfInBounds_toArray, List.set_cons_zero, List.set_cons_succ])
  refine wpAnyS_pure 15 (v := ?_) (fun _ => trivial) (by simp only [List.getElem?_toArray, List.getElem?_cons_succ, List.getElem?_cons_zero]; rfl) (by kernel_rfl) (fun _ _ _ _ _ h => h) ⟨rfl, (by intro c h; cases h), ?_⟩ hHeld ?_
  rotate_left
  focus (intro wS hSw; (try replace hSw := HSF.out wS hSw); (try dsimp only at hSw); go_simp; (try with_reducible rfl))
  (try simp only [Act.put, List.setIfInBounds_toArray, List.set_cons_zero, List.set_cons_succ])
  refine wpAnyS_pure 16 (v := ?_) (fun _ => trivial) (by simp only [List.getElem?_toArray, List.getElem?_cons_succ, List.getElem?_cons_zero]; rfl) (by kernel_rfl) (fun _ _ _ _ _ h => h) ⟨rfl, (by intro c h; cases h), ?_⟩ hHeld ?_
  rotate_left
  focus (intro wS hSw; (try replace hSw := HSF.out wS hSw); (try dsimp only at hSw); go_simp; (try with_reducible rfl))
  (try simp only [Act.put, List.setIfInBounds_toArray, List.set_cons_zero, List.set_cons_succ])
  refine wpAnyS_take 17 (v := ?_) (fun _ => trivial) (by simp only [List.getElem?_toArray, List.getElem?_cons_succ, List.getElem?_cons_zero]; rfl) (by kernel_rfl) (fun _ _ _ _ _ h => h) ⟨rfl, (by intro c h; cases h), ?_⟩ hHeld ?_
  rotate_left
  focus (intro wS hSw; (try replace hSw := HSF.out wS hSw); (try dsimp only at hSw); go_simp; (try with_reducible rfl))
  (try simp only [Act.put, List.setIfInBounds_toArray, List.set_cons_zero, List.set_cons_succ])
  refine wpAnyS_ready [8] (by kernel_rfl) (by simp) (AllReadyS.cons (by simp only [List.getElem?_toArray, List.getElem?_cons_succ, List.getElem?_cons_zero]; rfl) rfl (fun K hK => ?_) AllReadyS.nil)
  refine callV (by intro c h; cases h) (by go_simp; try with_reducible rfl) (HC.out wd BD.out) ?_
  intro v1 w1 hq
  obtain ⟨ho1, hB1⟩ := hq
  obtain ⟨A1, c1, rfl, -⟩ := ho1.form
  have B1 := hid (BD.out.trans (hB1.mono BD.out.size))
  have O1 := hid ho1
  have z1 := hid BD.out.size
  refine hK.out _ _ B1.out ?_
  (try simp only [Act.put, List.setIfInBounds_toArray, List.set_cons_zero, List.set_cons_succ])
  clear hK K hB1 ho1 hHeld BD
  have hHeld := B1.out
  refine wpAnyS_ready [13] (by kernel_rfl) (by simp) (AllReadyS.cons (by simp only [List.getElem?_toArray, List.getElem?_cons_succ, List.getElem?_cons_zero]; rfl) rfl (fun K hK => ?_) AllReadyS.nil)
  refine callS (by intro c h; cases h) (by go_simp; try with_reducible rfl) (HHc.out w1 B1.out) ?_
  intro w2 hq
  obtain ⟨ho2, hB2⟩ := hq
  have B2 := hid (B1.out.trans (hB2.mono B1.out.size))
  have O2 := hid ho2
  have O12 := hid (O1.out.below hB2)
  have z2 := hid B1.out.size
  refine hK.out _ _ B2.out ?_
  (try simp only [Act.put, List.setIfInBounds_toArray, List.set_cons_zero, List.set_cons_succ])
  clear hK K hB2 ho2 hHeld B1 O1
  have hHeld := B2.out
  refine wpAnyS_ready [18] (by kernel_rfl) (by simp) (AllReadyS.cons (by simp only [List.getElem?_toArray, List.getElem?_cons_succ, List.getElem?_cons_zero]; rfl) rfl (fun K hK => ?_) AllReadyS.nil)
  refine callS (by intro c h; cases h) (by go_simp; try with_reducible rfl) (HGc.out w2 B2.out) ?_
  intro w3 hq
  obtain ⟨ho3, hB3⟩ := hq
  have B3 := hid (B2.out.trans (hB3.mono B2.out.size))
  have O3 := hid ho3
  have O23 := hid (O2.out.below hB3)
  have O13 := hid (O12.out.below hB3)
  have z3 := hid B2.out.size
  have zn := hid (Nat.ne_of_lt O2.out.lt)
  refine hK.out _ _ B3.out ?_
  (try simp only [Act.put, List.setIfInBounds_toArray, List.set_cons_zero, List.set_cons_succ])
  clear hK K hB3 ho3 hHeld B2 O2 O12 HC HHc HGc
  have hHeld := B3.out
  have LD := hid (show Ld (w3.alloc (Obj.cells #[.int .i64 d.me, .slice A1 d.home.length c1, .map (some w1.heap.size), .map (some w2.heap.size)] 83)) w.heap.size w3.heap.size (.slice A1 d.home.length c1) w1.heap.size w2.heap.size d from by
    have b4 : Below w3.heap.size w3 (w3.alloc (Obj.cells #[.int .i64 d.me, .slice A1 d.home.length c1, .map (some w1.heap.size), .map (some w2.heap.size)] 83)) := by (repeat (first | exact Below.refl _ _ | assumption | refine below_drewN ?_ _ | refine Below.drew ?_ | refine Below.alloc ?_ (by (try simp); (try omega)) _ | refine Below.setCell ?_ (by (try simp); (try omega)) _))
    exact ⟨Blk.new _ _ _, own_base (O13.out.below b4) z1.out, O23.out.below b4, O3.out.below b4, z2.out, z3.out, B3.out.size, zn.out⟩)
  have BL := hid (B3.out.alloc B3.out.size (Obj.cells #[.int .i64 d.me, .slice A1 d.home.length c1, .map (some w1.heap.size), .map (some w2.heap.size)] 83))
  refine wpAnyS_pure 19 (v := ?_) (fun _ => trivial) (by simp only [List.getElem?_toArray, List.getElem?_cons_succ, List.getElem?_cons_zero]; rfl) (by kernel_rfl) (fun _ _ _ _ _ h => h) ⟨rfl, (by intro c h; cases h), ?_⟩ hHeld ?_
  rotate_left
  focus (intro wS hSw; (try replace hSw := HSF.out wS hSw); (try dsimp only at hSw); go_simp; (try with_reducible rfl))
  (try simp only [Act.put, List.setIfInBounds_toArray, List.set_cons_zero, List.set_cons_succ])
  refine wpAnyS_ready [20] (by kernel_rfl) (by simp) (AllReadyS.cons (by simp only [List.getElem?_toArray, List.getElem?_cons_succ, List.getElem?_cons_zero]; rfl) rfl (fun K hK => ?_) AllReadyS.nil)
  go_simp
  refine hK.out _ _ BL.out ?_
  (try simp only [Act.put, List.setIfInBounds_toArray, List.set_cons_zero, List.set_cons_succ])
  clear hK K hHeld O3 O23 O13 B3
  generalize (w3.alloc (Obj.cells #[.int .i64 d.me, .slice A1 d.home.length c1, .map (some w1.heap.size), .map (some w2.heap.size)] 83)) = w4 at *
  have hHeld := BL.out
  refine wpAnyS_pure 21 (v := ?_) (fun _ => trivial) (by simp only [List.getElem?_toArray, List.getElem?_cons_succ, List.getElem?_cons_zero]; rfl) (by kernel_rfl) (fun _ _ _ _ _ h => h) ⟨rfl, (by intro c h; cases h), ?_⟩ hHeld ?_
  rotate_left
  focus (intro wS hSw; (try replace hSw := HSF.out wS hSw); (try dsimp only at hSw); go_simp; (try with_reducible rfl))
  (try simp only [Act.put, List.setIfInBounds_toArray, List.set_cons_zero, List.set_cons_succ])
  refine wpAnyS_done (by kernel_rfl) ?_
  clear hHeld HSF
  go_wp2_with fail
  go_ret
  exact ⟨_, _, _, _, rfl, LD.out, BL.out⟩
end Go.Proofs.YtappgjdnfllblaaDoor
