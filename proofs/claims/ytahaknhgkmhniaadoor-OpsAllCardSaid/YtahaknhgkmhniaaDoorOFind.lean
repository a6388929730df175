/- Layer 5: the walk of ops.Find. -/
import Derived.Test.YtahaknhgkmhniaaDoorOAll
import Derived.Deep.RegionHeld3
import Derived.Deep.RegionWith
namespace Go.Proofs.YtahaknhgkmhniaaDoor.Ops
open Go Go.RowKit Go.Proofs.YtahaknhgkmhniaaDoorW.PrintWords Go.Proofs.YtahaknhgkmhniaaDoor.POpsAll
theorem Env.drew {w : World} (h : Env w) : Env w.drew := h.below (Below.refl _ _).drew h.lt
set_option maxHeartbeats 2000000 in
set_option maxRecDepth 100000 in
theorem Find1_val (op : Int) (s : ByteArray) (B : Nat) (w : World) (henv : Env w) (hB : B < w.heap.size) (hc : w.cell? ⟨B, 0, none⟩ = some (.string s)) :
    Calls Tryd.prog 17 #[.int .i64 op, .pointer (some ⟨B, 0, none⟩)] w fun e w' => e = .returned (.bool ((!s.toList.isEmpty) && (opName op == s.toList))) ∧ Below w.heap.size w w' := by
  have EN := Aside0.mk henv
  have HBB := Aside0.mk (Below.refl w.heap.size w)
  clear henv
  cases h1 : s.toList.isEmpty with
  | true =>
    go_enter Tryd.func17, Tryd.ntmps17
    go_wp2_with fail
    refine wp_region_any (by kernel_rfl) ?_
    change wpAny _ _ _ _ _ _ _ (World.drew _)
    refine wpAny_ready (rs := [0]) (by kernel_rfl) (by simp) ?_
    refine AllReady.cons rfl (fun K hK => ?_) AllReady.nil
    go_simp
    refine hK _ _ ?_
    clear hK K
    refine wpAny_take (i := 1) (v := .bool false) rfl (by kernel_rfl) (by kernel_rfl) (by kernel_rfl) (fun _ _ _ h => h) (Or.inl ⟨by rfl, ?_⟩) ?_
    · intro w; go_simp
    refine wpAny_take (i := 2) (v := .bool false) rfl (by kernel_rfl) (by kernel_rfl) (by kernel_rfl) (fun _ _ _ h => h) (Or.inl ⟨by rfl, ?_⟩) ?_
    · intro w; go_simp
    refine wpAny_take (i := 3) (v := undef) rfl (by kernel_rfl) (by kernel_rfl) (by kernel_rfl) (fun _ _ _ h => h) (Or.inr ⟨by kernel_rfl, rfl⟩) ?_
    refine wpAny_take (i := 4) (v := undef) rfl (by kernel_rfl) (by kernel_rfl) (by kernel_rfl) (fun _ _ _ h => h) (Or.inr ⟨by kernel_rfl, rfl⟩) ?_
    refine wpAny_take (i := 5) (v := undef) rfl (by kernel_rfl) (by kernel_rfl) (by kernel_rfl) (fun _ _ _ h => h) (Or.inr ⟨by kernel_rfl, rfl⟩) ?_
    refine wpAny_take (i := 6) (v := undef) rfl (by kernel_rfl) (by kernel_rfl) (by kernel_rfl) (fun _ _ _ h => h) (Or.inr ⟨by kernel_rfl, rfl⟩) ?_
    refine wpAny_take (i := 7) (v := .bool false) rfl (by kernel_rfl) (by kernel_rfl) (by kernel_rfl) (fun _ _ _ h => h) (Or.inl ⟨by rfl, ?_⟩) ?_
    · intro w; go_simp
    refine wpAny_take (i := 8) (v := .bool false) rfl (by kernel_rfl) (by kernel_rfl) (by kernel_rfl) (fun _ _ _ h => h) (Or.inl ⟨by rfl, ?_⟩) ?_
    · intro w; go_simp
    refine wpAny_done (by kernel_rfl) ?_ _
    go_simp
    go_wp2
    go_ret
    exact ⟨rfl, HBB.out.drew⟩
  | false =>
    go_enter Tryd.func17, Tryd.ntmps17
    go_wp2_with fail
    go_region_held3 (fun w' => w'.cell? ⟨B, 0, none⟩ = some (.string s)) (go_keep) ((go_at_call 12; refine (Name_val op _ ?_).mono ?_; (exact EN.out.drew); rintro e w1 ⟨rfl, hb⟩; have hc1 : w1.cell? ⟨B, 0, none⟩ = some (.string s) := (hb.cell (p := ⟨B, 0, none⟩) hB).trans hc))
    obtain ⟨R, hR⟩ : ∃ R, (opName op == s.toList) = R := ⟨_, rfl⟩
    rw [hR]
    go_wp2
    go_ret
    exact ⟨by simp [hR], HBB.out.drew.trans hb⟩
theorem C_cell {α : Type} {enc : α → Value} {h1 : ∀ x, (enc x).oneCell' = true} {w : World} {g n : Nat} {xs : List α} (h : Kd.C (Kd.scalar enc h1) w (some ⟨g, 0, none⟩) n xs) (z : α) (i : Nat) (hi : i < n) : w.cell? ⟨g, i, none⟩ = some (enc (xs.getD i z)) := by
  obtain ⟨ad, cs, e0, _, hK, hcell⟩ := Kd.C_get h z (i : Int) (by omega) (by omega)
  obtain rfl := (Option.some.inj e0).symm
  have hK2 : cs = [enc (xs.getD (i : Int).toNat z)] := hK
  have c0 := hcell 0 (enc (xs.getD i z)) (by rw [hK2]; rfl)
  simpa [Addr.add_lit, Kd.scalar] using c0
theorem All_slice (w : World) (henv : Env w) : Calls Tryd.prog 10 #[] w fun e w' => ∃ (g c : Nat), e = .returned (.slice (some ⟨g, 0, none⟩) 167 c) ∧ 167 ≤ c ∧ Kd.C (Kd.int .i64) w' (some ⟨g, 0, none⟩) 167 ops ∧ Below w.heap.size w w' := by
  refine (All_val w henv).mono ?_
  rintro e w1 ⟨v, rfl, hR, hb⟩
  obtain ⟨A, c, rfl, hc, hC⟩ := Kd.R_reads hR
  obtain ⟨inner, ho⟩ := Kd.R_own hR
  rcases ho.2 with ⟨h1, h3⟩ | ⟨g, cap, cur, h1, hg, _⟩
  · rw [ops_len] at h3; cases h3
  have h4 : A = some ⟨g, 0, none⟩ ∧ c = cap := by simpa using h1
  obtain ⟨rfl, rfl⟩ := h4
  rw [ops_len] at hC hc
  exact ⟨g, c, by rw [ops_len], hc, hC, hb⟩
def pF (s : ByteArray) (op : Int) : Bool := (!s.toList.isEmpty) && (opName op == s.toList)
def firstIx (p : Int → Bool) : List Int → Int → Int
  | [], _ => -1
  | x :: l, i => if p x = true then i else firstIx p l (i + 1)
set_option maxHeartbeats 2000000 in
set_option maxRecDepth 100000 in
theorem Index_val (g c : Nat) (zs : List Int) (s : ByteArray) (B : Nat) (w : World) (henv : Env w) (hB : B < w.heap.size) (hc : w.cell? ⟨B, 0, none⟩ = some (.string s)) (hz : zs.length ≤ 1000)
    (hC : Kd.C (Kd.int .i64) w (some ⟨g, 0, none⟩) zs.length zs) :
    Calls Tryd.prog 16 #[.slice (some ⟨g, 0, none⟩) zs.length c, .func (.func 17) #[] #[.pointer (some ⟨B, 0, none⟩)]] w fun e w' => e = .returned (.int .i64 (firstIx (pF s) zs 0)) ∧ Below w.heap.size w w' := by
  have EN := Aside0.mk henv
  have HC := Aside0.mk hC
  have HL := Aside0.mk hc
  have h2 := henv.lt
  obtain ⟨R, hR⟩ : ∃ R, firstIx (pF s) zs 0 = R := ⟨_, rfl⟩
  rw [hR]
  have HR := Aside0.mk hR
  clear henv hC hR hc
  go_enter Tryd.func16, Tryd.ntmps16
  go_wp2
  go_loopw [8] (fun v8 wr => ∃ k : Nat, v8 = .int .i64 k ∧ k ≤ zs.length ∧ Aside0 (Below w.heap.size w wr) ∧ Aside0 (firstIx (pF s) (zs.drop k) k = R)) (fun v8 _ => ((zs.length : Int) - intOf v8).toNat)
  case atStart => exact ⟨0, rfl, by omega, ⟨Below.refl _ _⟩, ⟨by rw [← HR.out, List.drop_zero]; rfl⟩⟩
  case round =>
    obtain ⟨k, rfl, hk, HB, HN⟩ := hrel
    by_cases hq : k < zs.length
    · have qi : (k : Int) < zs.length := by omega
      have c0 := C_cell HC.out 0 k hq
      obtain ⟨y, hy⟩ : ∃ y, zs.getD k 0 = y := ⟨_, rfl⟩
      rw [hy] at c0
      have hd : zs.drop k = y :: zs.drop (k + 1) := by
        rw [List.drop_eq_getElem_cons hq, ← hy, List.getD_eq_getElem?_getD, List.getElem?_eq_getElem hq]; rfl
      have HN2 := HN.out
      rw [hd] at HN2
      have d0 : wr.cell? ⟨g, k, none⟩ = some (.int .i64 y) := (HB.out.cell (p := ⟨g, k, none⟩) (World.block_lt_of_cell? w ⟨g, k, none⟩ c0)).trans c0
      have EN2 := Aside0.mk (EN.out.below HB.out h2)
      have hlt : B < wr.heap.size := Nat.lt_of_lt_of_le hB HB.out.size
      have HL2 := Aside0.mk ((HB.out.cell (p := ⟨B, 0, none⟩) hB).trans HL.out)
      clear hd c0 hy HN
      cases hp : pF s y with
      | true =>
        have e : (k : Int) = R := by rw [← HN2]; simp only [firstIx]; rw [if_pos hp]
        have hp2 : (((!s.toList.isEmpty) && (opName y == s.toList)) : Bool) = true := hp
        subst e
        clear HN2 HR
        go_wp2_with fail
        refine (Find1_val y s B _ EN2.out hlt HL2.out).mono ?_
        rintro e w2 ⟨rfl, hb⟩
        rw [hp2]
        have HB2 := Aside0.mk hb
        clear hb hp hp2
        go_wp2
        go_ret
        exact ⟨rfl, HB.out.trans (HB2.out.mono HB.out.size)⟩
      | false =>
        have e : firstIx (pF s) (zs.drop (k + 1)) ((k + 1 : Nat) : Int) = R := by rw [← HN2]; simp only [firstIx]; rw [if_neg (by rw [hp]; decide)]; rfl
        have hp2 : (((!s.toList.isEmpty) && (opName y == s.toList)) : Bool) = false := hp
        have E := Aside0.mk e
        clear HN2 e
        go_wp2_with fail
        refine (Find1_val y s B _ EN2.out hlt HL2.out).mono ?_
        rintro e w2 ⟨rfl, hb⟩
        rw [hp2]
        have HB2 := Aside0.mk hb
        clear hb hp hp2
        go_wp2
        exact ⟨⟨k + 1, by simp, by omega, ⟨HB.out.trans (HB2.out.mono HB.out.size)⟩, E⟩, by simp [intOf]; omega⟩
    · obtain rfl : k = zs.length := by omega
      have e : -1 = R := by
        have h := HN.out
        rw [List.drop_length] at h
        exact h
      subst e
      go_wp2
      go_ret
      exact ⟨rfl, HB.out⟩
/-- The instruction of a name. -/
def findOp (s : ByteArray) : Int := if firstIx (pF s) ops 0 < 0 then -1 else ops.getD (firstIx (pF s) ops 0).toNat 0
theorem firstIx_range (p : Int → Bool) : ∀ (l : List Int) (i : Int), 0 ≤ i → firstIx p l i = -1 ∨ i ≤ firstIx p l i ∧ firstIx p l i < i + l.length
  | [], _, _ => .inl rfl
  | x :: l, i, h => by
    simp only [firstIx]
    by_cases hp : p x = true
    · rw [if_pos hp]; right; simp only [List.length_cons]; omega
    · rw [if_neg hp]
      rcases firstIx_range p l (i + 1) (by omega) with e | e
      · exact .inl e
      · right; simp only [List.length_cons]; omega
set_option maxHeartbeats 2000000 in
set_option maxRecDepth 100000 in
theorem Find_val (s : ByteArray) (w : World) (henv : Env w) :
    Calls Tryd.prog 8 #[.string s] w fun e w' => e = .returned (.int .i64 (findOp s)) ∧ Below w.heap.size w w' := by
  have h2 := henv.lt
  have EN := Aside0.mk (henv.alloc (.cells #[.string s] 9))
  have HB := Aside0.mk (Below.alloc (Below.refl w.heap.size w) (Nat.le_refl _) (.cells #[.string s] 9))
  clear henv
  obtain ⟨i, hi⟩ : ∃ i, firstIx (pF s) ops 0 = i := ⟨_, rfl⟩
  have hr := firstIx_range (pF s) ops 0 (by omega)
  rw [hi, ops_len] at hr
  have hF : findOp s = if i < 0 then -1 else ops.getD i.toNat 0 := by unfold findOp; rw [hi]
  obtain ⟨Y, hY⟩ : ∃ Y, findOp s = Y := ⟨_, rfl⟩
  rw [hY]
  rw [hY] at hF
  have HF := Aside0.mk hF
  have HI := Aside0.mk hi
  clear hF hi hY
  go_enter Tryd.func8, Tryd.ntmps8
  go_wp2_with fail
  refine (All_slice _ EN.out).mono ?_
  rintro e w1 ⟨g, c, rfl, hc, hC, hb⟩
  have HB1 := Aside0.mk (HB.out.trans (hb.mono (by simp)))
  have EN1 := Aside0.mk (EN.out.below hb (by simp; omega))
  have hs1 := hb.size
  have HL := Aside0.mk ((hb.cell (p := ⟨w.heap.size, 0, none⟩) (by simp)).trans (show (w.alloc (.cells #[.string s] 9)).cell? ⟨w.heap.size, 0, none⟩ = some (.string s) by simp))
  have HC := Aside0.mk hC
  clear hb hC
  have hw1 : w.heap.size < w1.heap.size := by simp at hs1; omega
  have hC2 : Kd.C (Kd.int .i64) w1 (some ⟨g, 0, none⟩) ops.length ops := by rw [ops_len]; exact HC.out
  have HX := Aside0.mk (Index_val g c ops s w.heap.size w1 EN1.out hw1 HL.out (by rw [ops_len]; decide) hC2)
  rw [ops_len, HI.out] at HX
  clear hC2 hs1
  rcases hr with rfl | ⟨hr0, hr1⟩
  · have hYY : Y = -1 := by rw [HF.out]; rfl
    subst hYY
    clear HF
    go_wp2_with fail
    refine HX.out.mono ?_
    rintro e w2 ⟨rfl, hb⟩
    have HB2 := Aside0.mk hb
    clear hb
    go_wp2
    go_ret
    exact ⟨rfl, HB1.out.trans (HB2.out.mono (by omega))⟩
  · obtain ⟨m, rfl⟩ := Int.eq_ofNat_of_zero_le hr0
    have hm : (m : Int) < 167 := by omega
    have hnn : ¬ (m : Int) < 0 := by omega
    obtain ⟨y, hy⟩ : ∃ y, ops.getD m 0 = y := ⟨_, rfl⟩
    have c0 := C_cell HC.out 0 m (by omega)
    rw [hy] at c0
    have hF : Y = y := by rw [HF.out, if_neg hnn, Int.toNat_natCast]; exact hy
    subst hF
    have C0 := Aside0.mk c0
    clear hr1 c0 hy HF
    go_wp2_with fail
    refine HX.out.mono ?_
    rintro e w2 ⟨rfl, hb⟩
    have d0 : w2.cell? ⟨g, m, none⟩ = some (.int .i64 Y) := (hb.cell (p := ⟨g, m, none⟩) (World.block_lt_of_cell? w1 ⟨g, m, none⟩ C0.out)).trans C0.out
    have HB2 := Aside0.mk hb
    clear hb
    go_wp2
    go_ret
    exact ⟨rfl, HB1.out.trans (HB2.out.mono (by omega))⟩
end Go.Proofs.YtahaknhgkmhniaaDoor.Ops
