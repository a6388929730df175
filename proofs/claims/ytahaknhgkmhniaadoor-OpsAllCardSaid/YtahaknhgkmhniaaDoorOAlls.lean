/- Layer 5: the walk of the statement OpsAll. -/
import Derived.Test.YtahaknhgkmhniaaDoorOFinds
namespace Go.Proofs.YtahaknhgkmhniaaDoor.Ops
open Go Go.RowKit Go.Proofs.YtahaknhgkmhniaaDoorW.PrintWords Go.Proofs.YtahaknhgkmhniaaDoor.POpsAll
set_option maxRecDepth 100000
def risesB : Int → List Int → Bool
  | _, [] => true
  | p, x :: l => decide (p < x) && risesB x l
theorem rises_at : ∀ (l : List Int) (p : Int), risesB p l = true → ∀ i, i + 1 < l.length → l.getD i 0 < l.getD (i + 1) 0
  | [], _, _, i, h => by simp at h
  | [_], _, _, i, h => by simp at h
  | x :: y :: l, p, h, i, hi => by
    simp only [risesB, Bool.and_eq_true, decide_eq_true_eq] at h
    cases i with
    | zero => simpa using h.2.1
    | succ i =>
      have h2 : risesB x (y :: l) = true := by simp [risesB, h.2.1, h.2.2]
      have := rises_at (y :: l) x h2 i (by simpa using hi)
      simpa using this
theorem ops_rise : risesB (-1) ops = true := by decide +kernel
set_option maxHeartbeats 8000000 in
theorem OpsAll_law (w : World) (henv : Env w) : Calls Tryd.prog 4 #[] w fun e w' => e = .returned (.bool true) ∧ Below w.heap.size w w' := by
  have h2 := henv.lt
  have EN := Aside0.mk henv
  clear henv
  go_enter Tryd.func4, Tryd.ntmps4
  go_wp2_with fail
  refine (All_slice _ EN.out).mono ?_
  rintro e w1 ⟨g1, c1, rfl, hc1, hC1, hb⟩
  have B1 := Aside0.mk hb
  have K1 := Aside0.mk hC1
  clear hb hC1
  go_wp2_with fail
  refine (refOps_val _).mono ?_
  rintro e w2 ⟨v2, v3, rfl, hr2, hr3, hb⟩
  have B2 := Aside0.mk (below_step B1.out hb)
  have E2 := Aside0.mk (EN.out.below B2.out h2)
  have K1b := Aside0.mk (Kd.C_below K1.out hb)
  obtain ⟨A2, c2, rfl, hA2⟩ := R_slice0 hr2
  obtain ⟨A3, c3, rfl, _⟩ := R_slice0 hr3
  have K2 := Aside0.mk (R_C hr2)
  obtain ⟨g2, rfl, _⟩ := hA2 (by rw [ops_len]; omega)
  rw [ops_len] at K2
  rw [ops_len]
  clear hr2 hr3 hb hA2 K1
  go_wp2_with fail
  refine (known_val _ E2.out).mono ?_
  rintro e w3 ⟨rfl, hb⟩
  have B3 := Aside0.mk (below_step B2.out hb)
  have K1c := Aside0.mk (Kd.C_below K1b.out hb)
  have K2c := Aside0.mk (Kd.C_below K2.out hb)
  clear hb K1b K2
  go_wp2
  go_loopw [4] (fun v4 wr => ∃ j : Nat, v4 = .int .i64 j ∧ j ≤ 167 ∧ Aside0 (Below w3.heap.size w3 wr)) (fun v4 _ => (167 - intOf v4).toNat)
  case atStart => exact ⟨0, rfl, by omega, ⟨Below.refl _ _⟩⟩
  case round =>
    obtain ⟨j, rfl, hj, HB⟩ := hrel
    by_cases hq : j < 167
    · have qi : (j : Int) < 167 := by omega
      obtain ⟨y, hy⟩ : ∃ y, ops.getD j 0 = y := ⟨_, rfl⟩
      have d1 := C_cell (Kd.C_below K1c.out (HB.out.mono (Nat.le_refl _))) 0 j hq
      have d2 := C_cell (Kd.C_below K2c.out (HB.out.mono (Nat.le_refl _))) 0 j hq
      rw [hy] at d1 d2
      cases j with
      | zero =>
        clear hy hq qi hj
        have D1 : wr.cell? ⟨g1, 0, none⟩ = some (.int .i64 y) := d1
        have D2 : wr.cell? ⟨g2, 0, none⟩ = some (.int .i64 y) := d2
        clear d1 d2
        go_wp2_with fail
        refine wp_region_any (by kernel_rfl) ?_
        change wpAny _ _ _ _ _ _ _ (World.drew _)
        refine wpAny_take (i := 0) (v := .slice (some ⟨g1, 0, none⟩) 167 c1) rfl (by kernel_rfl) (by kernel_rfl) (by kernel_rfl) (fun _ _ _ h => h) (Or.inl ⟨by rfl, ?_⟩) ?_
        · intro w; go_simp
        go_simp
        refine wpAny_take (i := 1) (v := .int .i64 0) rfl (by kernel_rfl) (by kernel_rfl) (by kernel_rfl) (fun _ _ _ h => h) (Or.inl ⟨by rfl, ?_⟩) ?_
        · intro w; go_simp
        go_simp
        refine wpAny_take (i := 2) (v := .pointer (some ⟨g1, 0, none⟩)) rfl (by kernel_rfl) (by kernel_rfl) (by kernel_rfl) (fun _ _ _ h => h) (Or.inl ⟨by rfl, ?_⟩) ?_
        · intro w; go_simp
        go_simp
        refine wpAny_take (i := 4) (v := .slice (some ⟨g2, 0, none⟩) 167 c2) rfl (by kernel_rfl) (by kernel_rfl) (by kernel_rfl) (fun _ _ _ h => h) (Or.inl ⟨by rfl, ?_⟩) ?_
        · intro w; go_simp
        go_simp
        refine wpAny_take (i := 5) (v := .int .i64 0) rfl (by kernel_rfl) (by kernel_rfl) (by kernel_rfl) (fun _ _ _ h => h) (Or.inl ⟨by rfl, ?_⟩) ?_
        · intro w; go_simp
        go_simp
        refine wpAny_take (i := 6) (v := .pointer (some ⟨g2, 0, none⟩)) rfl (by kernel_rfl) (by kernel_rfl) (by kernel_rfl) (fun _ _ _ h => h) (Or.inl ⟨by rfl, ?_⟩) ?_
        · intro w; go_simp
        go_simp
        refine wpAny_ready (rs := [3, 7]) (by kernel_rfl) (by simp) ?_
        refine AllReady.cons rfl (fun K hK => ?_) (AllReady.cons rfl (fun K hK => ?_) AllReady.nil)
        · go_simp
          refine hK _ _ ?_
          clear hK K
          refine wpAny_ready (rs := [7]) (by kernel_rfl) (by simp) ?_
          refine AllReady.cons rfl (fun K hK => ?_) AllReady.nil
          go_simp
          refine hK _ _ ?_
          clear hK K
          refine wpAny_take (i := 8) (v := .bool false) rfl (by kernel_rfl) (by kernel_rfl) (by kernel_rfl) (fun _ _ _ h => h) (Or.inl ⟨by rfl, ?_⟩) ?_
          · intro w; go_simp
          go_simp
          refine wpAny_take (i := 9) (v := .bool false) rfl (by kernel_rfl) (by kernel_rfl) (by kernel_rfl) (fun _ _ _ h => h) (Or.inl ⟨by rfl, ?_⟩) ?_
          · intro w; go_simp
          go_simp
          refine wpAny_take (i := 10) (v := .int .i64 0) rfl (by kernel_rfl) (by kernel_rfl) (by kernel_rfl) (fun _ _ _ h => h) (Or.inl ⟨by rfl, ?_⟩) ?_
          · intro w; go_simp
          go_simp
          refine wpAny_take (i := 11) (v := .bool false) rfl (by kernel_rfl) (by kernel_rfl) (by kernel_rfl) (fun _ _ _ h => h) (Or.inl ⟨by rfl, ?_⟩) ?_
          · intro w; go_simp
          go_simp
          refine wpAny_take (i := 12) (v := .bool false) rfl (by kernel_rfl) (by kernel_rfl) (by kernel_rfl) (fun _ _ _ h => h) (Or.inl ⟨by rfl, ?_⟩) ?_
          · intro w; go_simp
          go_simp
          refine wpAny_take (i := 13) (v := undef) rfl (by kernel_rfl) (by kernel_rfl) (by kernel_rfl) (fun _ _ _ h => h) (Or.inr ⟨by kernel_rfl, rfl⟩) ?_
          go_simp
          refine wpAny_take (i := 14) (v := undef) rfl (by kernel_rfl) (by kernel_rfl) (by kernel_rfl) (fun _ _ _ h => h) (Or.inr ⟨by kernel_rfl, rfl⟩) ?_
          go_simp
          refine wpAny_take (i := 15) (v := undef) rfl (by kernel_rfl) (by kernel_rfl) (by kernel_rfl) (fun _ _ _ h => h) (Or.inr ⟨by kernel_rfl, rfl⟩) ?_
          go_simp
          refine wpAny_take (i := 16) (v := undef) rfl (by kernel_rfl) (by kernel_rfl) (by kernel_rfl) (fun _ _ _ h => h) (Or.inr ⟨by kernel_rfl, rfl⟩) ?_
          go_simp
          refine wpAny_take (i := 17) (v := undef) rfl (by kernel_rfl) (by kernel_rfl) (by kernel_rfl) (fun _ _ _ h => h) (Or.inr ⟨by kernel_rfl, rfl⟩) ?_
          go_simp
          refine wpAny_take (i := 18) (v := undef) rfl (by kernel_rfl) (by kernel_rfl) (by kernel_rfl) (fun _ _ _ h => h) (Or.inr ⟨by kernel_rfl, rfl⟩) ?_
          go_simp
          refine wpAny_take (i := 19) (v := undef) rfl (by kernel_rfl) (by kernel_rfl) (by kernel_rfl) (fun _ _ _ h => h) (Or.inr ⟨by kernel_rfl, rfl⟩) ?_
          go_simp
          refine wpAny_take (i := 20) (v := undef) rfl (by kernel_rfl) (by kernel_rfl) (by kernel_rfl) (fun _ _ _ h => h) (Or.inr ⟨by kernel_rfl, rfl⟩) ?_
          go_simp
          refine wpAny_take (i := 21) (v := undef) rfl (by kernel_rfl) (by kernel_rfl) (by kernel_rfl) (fun _ _ _ h => h) (Or.inr ⟨by kernel_rfl, rfl⟩) ?_
          go_simp
          refine wpAny_take (i := 22) (v := undef) rfl (by kernel_rfl) (by kernel_rfl) (by kernel_rfl) (fun _ _ _ h => h) (Or.inr ⟨by kernel_rfl, rfl⟩) ?_
          go_simp
          refine wpAny_take (i := 23) (v := .bool false) rfl (by kernel_rfl) (by kernel_rfl) (by kernel_rfl) (fun _ _ _ h => h) (Or.inl ⟨by rfl, ?_⟩) ?_
          · intro w; go_simp
          go_simp
          refine wpAny_take (i := 24) (v := .bool false) rfl (by kernel_rfl) (by kernel_rfl) (by kernel_rfl) (fun _ _ _ h => h) (Or.inl ⟨by rfl, ?_⟩) ?_
          · intro w; go_simp
          go_simp
          refine wpAny_done (by kernel_rfl) ?_ _
          go_simp
          go_wp2
          exact ⟨⟨1, by simp, by omega, ⟨HB.out.drew⟩⟩, by simp [intOf]⟩
        · go_simp
          refine hK _ _ ?_
          clear hK K
          refine wpAny_ready (rs := [3]) (by kernel_rfl) (by simp) ?_
          refine AllReady.cons rfl (fun K hK => ?_) AllReady.nil
          go_simp
          refine hK _ _ ?_
          clear hK K
          refine wpAny_take (i := 8) (v := .bool false) rfl (by kernel_rfl) (by kernel_rfl) (by kernel_rfl) (fun _ _ _ h => h) (Or.inl ⟨by rfl, ?_⟩) ?_
          · intro w; go_simp
          go_simp
          refine wpAny_take (i := 9) (v := .bool false) rfl (by kernel_rfl) (by kernel_rfl) (by kernel_rfl) (fun _ _ _ h => h) (Or.inl ⟨by rfl, ?_⟩) ?_
          · intro w; go_simp
          go_simp
          refine wpAny_take (i := 10) (v := .int .i64 0) rfl (by kernel_rfl) (by kernel_rfl) (by kernel_rfl) (fun _ _ _ h => h) (Or.inl ⟨by rfl, ?_⟩) ?_
          · intro w; go_simp
          go_simp
          refine wpAny_take (i := 11) (v := .bool false) rfl (by kernel_rfl) (by kernel_rfl) (by kernel_rfl) (fun _ _ _ h => h) (Or.inl ⟨by rfl, ?_⟩) ?_
          · intro w; go_simp
          go_simp
          refine wpAny_take (i := 12) (v := .bool false) rfl (by kernel_rfl) (by kernel_rfl) (by kernel_rfl) (fun _ _ _ h => h) (Or.inl ⟨by rfl, ?_⟩) ?_
          · intro w; go_simp
          go_simp
          refine wpAny_take (i := 13) (v := undef) rfl (by kernel_rfl) (by kernel_rfl) (by kernel_rfl) (fun _ _ _ h => h) (Or.inr ⟨by kernel_rfl, rfl⟩) ?_
          go_simp
          refine wpAny_take (i := 14) (v := undef) rfl (by kernel_rfl) (by kernel_rfl) (by kernel_rfl) (fun _ _ _ h => h) (Or.inr ⟨by kernel_rfl, rfl⟩) ?_
          go_simp
          refine wpAny_take (i := 15) (v := undef) rfl (by kernel_rfl) (by kernel_rfl) (by kernel_rfl) (fun _ _ _ h => h) (Or.inr ⟨by kernel_rfl, rfl⟩) ?_
          go_simp
          refine wpAny_take (i := 16) (v := undef) rfl (by kernel_rfl) (by kernel_rfl) (by kernel_rfl) (fun _ _ _ h => h) (Or.inr ⟨by kernel_rfl, rfl⟩) ?_
          go_simp
          refine wpAny_take (i := 17) (v := undef) rfl (by kernel_rfl) (by kernel_rfl) (by kernel_rfl) (fun _ _ _ h => h) (Or.inr ⟨by kernel_rfl, rfl⟩) ?_
          go_simp
          refine wpAny_take (i := 18) (v := undef) rfl (by kernel_rfl) (by kernel_rfl) (by kernel_rfl) (fun _ _ _ h => h) (Or.inr ⟨by kernel_rfl, rfl⟩) ?_
          go_simp
          refine wpAny_take (i := 19) (v := undef) rfl (by kernel_rfl) (by kernel_rfl) (by kernel_rfl) (fun _ _ _ h => h) (Or.inr ⟨by kernel_rfl, rfl⟩) ?_
          go_simp
          refine wpAny_take (i := 20) (v := undef) rfl (by kernel_rfl) (by kernel_rfl) (by kernel_rfl) (fun _ _ _ h => h) (Or.inr ⟨by kernel_rfl, rfl⟩) ?_
          go_simp
          refine wpAny_take (i := 21) (v := undef) rfl (by kernel_rfl) (by kernel_rfl) (by kernel_rfl) (fun _ _ _ h => h) (Or.inr ⟨by kernel_rfl, rfl⟩) ?_
          go_simp
          refine wpAny_take (i := 22) (v := undef) rfl (by kernel_rfl) (by kernel_rfl) (by kernel_rfl) (fun _ _ _ h => h) (Or.inr ⟨by kernel_rfl, rfl⟩) ?_
          go_simp
          refine wpAny_take (i := 23) (v := .bool false) rfl (by kernel_rfl) (by kernel_rfl) (by kernel_rfl) (fun _ _ _ h => h) (Or.inl ⟨by rfl, ?_⟩) ?_
          · intro w; go_simp
          go_simp
          refine wpAny_take (i := 24) (v := .bool false) rfl (by kernel_rfl) (by kernel_rfl) (by kernel_rfl) (fun _ _ _ h => h) (Or.inl ⟨by rfl, ?_⟩) ?_
          · intro w; go_simp
          go_simp
          refine wpAny_done (by kernel_rfl) ?_ _
          go_simp
          go_wp2
          exact ⟨⟨1, by simp, by omega, ⟨HB.out.drew⟩⟩, by simp [intOf]⟩
      | succ i =>
        have hlt := rises_at ops _ ops_rise i (by rw [ops_len]; omega)
        rw [hy] at hlt
        have d3 := C_cell (Kd.C_below K1c.out (HB.out.mono (Nat.le_refl _))) 0 i (by omega)
        obtain ⟨z, hz⟩ : ∃ z, ops.getD i 0 = z := ⟨_, rfl⟩
        rw [hz] at d3 hlt
        have qn : ¬ y ≤ z := by omega
        have i0 : (0 : Int) ≤ (i : Int) := by omega
        have i1 : (i : Int) + 1 < 167 := by omega
        have i2 : (i : Int) < 167 := by omega
        have i3 : (0 : Int) ≤ (i : Int) + 1 := by omega
        have i4 : (i : Int) + 1 - 1 = i := by omega
        have i5 : (((i : Nat) + 1 : Nat) : Int) = (i : Int) + 1 := by omega
        have i6 : ((i : Int) + 1).toNat = i + 1 := by omega
        have i7 : IntKind.i64.wrap (i : Int) = (i : Int) := by simp [IntKind.wrap, IntKind.bits, IntKind.signed]; omega
        rw [i5]
        clear hy hz hlt qi
        go_wp2_with fail
        go_region_held3 (fun w' => w'.cell? ⟨g1, i + 1, none⟩ = some (.int .i64 y) ∧ w'.cell? ⟨g2, i + 1, none⟩ = some (.int .i64 y) ∧ w'.cell? ⟨g1, i, none⟩ = some (.int .i64 z)) (go_keep) (fail)
        all_goals
          go_wp2
          exact ⟨⟨i + 2, by simp; omega, by omega, ⟨HB.out.drew⟩⟩, by simp [intOf]; omega⟩
    · obtain rfl : j = 167 := by omega
      go_wp2
      go_ret
      exact ⟨rfl, B3.out.trans (HB.out.mono B3.out.size)⟩
end Go.Proofs.YtahaknhgkmhniaaDoor.Ops
