/- Layer 5: the walk of ops.Name. -/
import Derived.Test.YtahaknhgkmhniaaDoorOSpec
import Derived.Test.YtahaknhgkmhniaaDoorOShelf
import Derived.WalkSmall
namespace Go.Proofs.YtahaknhgkmhniaaDoor.Ops
open Go.RowKit Go.Proofs.YtahaknhgkmhniaaDoorW.PrintWords Go.Proofs.YtahaknhgkmhniaaDoor.POpsAll
structure Aside0 (p : Prop) : Prop where
  out : p
/-- What the library's variables hold. -/
structure Env (w : World) : Prop where
  sp : Go.Lib.TabIs Tryd.prog w "strings.asciiSpace" .u8 Go.Lib.asciiSpaceTab
  ml : ∃ m, w.cell? ⟨2, 0, none⟩ = some (.int .i64 m)
theorem Env.lt {w : World} (h : Env w) : 2 < w.heap.size := by
  obtain ⟨m, hm⟩ := h.ml
  exact World.block_lt_of_cell? w ⟨2, 0, none⟩ hm
theorem Env.below {w w' : World} (h : Env w) {B : Nat} (hb : Below B w w') (hB : 2 < B) : Env w' := by
  refine ⟨?_, ?_⟩
  · exact Go.var?_below hb (show Tryd.prog.globalNamed "strings.asciiSpace" = some 0 by kernel_rfl) (by omega) h.sp
  · obtain ⟨m, hm⟩ := h.ml
    exact ⟨m, (hb.cell (p := ⟨2, 0, none⟩) hB).trans hm⟩
theorem rd_runs (k : Nat) (hk : k < 16) : rd_T41 runsL (k : Int) ∈ runsL ∧ runsL.drop k = rd_T41 runsL (k : Int) :: runsL.drop (k + 1) := by
  have hlt : k < runsL.length := by rw [runs_len]; exact hk
  have e : rd_T41 runsL (k : Int) = runsL[k] := by
    unfold rd_T41
    rw [Int.toNat_natCast, List.getD_eq_getElem?_getD, List.getElem?_eq_getElem hlt]
    rfl
  rw [e]
  exact ⟨List.getElem_mem _, List.drop_eq_getElem_cons hlt⟩
theorem runs_calls (w : World) : Calls Tryd.prog 18 #[] w fun e w' => ∃ (g c : Nat), e = .returned (.slice (some ⟨g, 0, none⟩) 16 c) ∧ w.heap.size ≤ g ∧ 16 ≤ c ∧ Kd.C k41 w' (some ⟨g, 0, none⟩) 16 runsL ∧ Below w.heap.size w w' := by
  refine (ops_runs.calls runsL _ runs_eq).mono ?_
  rintro e w1 ⟨v0, rfl, hR, hb⟩
  obtain ⟨A, c, rfl, hc, hC⟩ := Kd.R_reads hR
  obtain ⟨inner, ho⟩ := Kd.R_own hR
  rcases ho.2 with ⟨h1, h2⟩ | ⟨g, cap, cur, h1, hg, _⟩
  · rw [runs_len] at h2; cases h2
  · have h3 : A = some ⟨g, 0, none⟩ ∧ c = cap := by simpa using h1
    obtain ⟨rfl, rfl⟩ := h3
    rw [runs_len] at hC hc
    refine ⟨g, c, ?_, hg, hc, hC, hb⟩
    rw [runs_len]
theorem Env.alloc {w : World} (h : Env w) (o : Obj) : Env (w.alloc o) := h.below (Below.alloc (Below.refl _ _) (Nat.le_refl _) o) h.lt
theorem Fields_val (s : ByteArray) (L : List (List UInt8)) (hL : Go.Lib.fields s.data.toList = L) (w : World) (henv : Env w) (hs : s.size < 1000) (ha : ∀ b ∈ s.data.toList, b.toNat < 128) :
    Calls Tryd.prog 19 #[.string s] w fun e w' => ∃ g, e = .returned (.slice (some ⟨g, 0, none⟩) L.length L.length) ∧ w.heap.size ≤ g ∧ (∀ j n, L[j]? = some n → w'.cell? ⟨g, j, none⟩ = some (.string ⟨n.toArray⟩)) ∧ Below w.heap.size w w' := by
  subst hL
  refine (Tryd.strings_Fields s w (by omega) (fun j b hb => ha b (List.mem_of_getElem? hb)) henv.sp).mono ?_
  rintro e w' ⟨rfl, rfl⟩
  refine ⟨w.heap.size, rfl, Nat.le_refl _, ?_, Below.alloc (Below.refl _ _) (Nat.le_refl _) _⟩
  intro j n hj
  rw [cell_of_row _ w.heap.size j _ 9 (0, 0) (heap_alloc_new w _)]
  simp [hj]
set_option maxHeartbeats 2000000 in
set_option maxRecDepth 100000 in
theorem Name_val (op : Int) (w : World) (henv : Env w) : Calls Tryd.prog 12 #[.int .i64 op] w fun e w' => e = .returned (.string ⟨(opName op).toArray⟩) ∧ Below w.heap.size w w' := by
  have EN := Aside0.mk henv
  have h2 := henv.lt
  clear henv
  obtain ⟨R, hR⟩ : ∃ R, opName op = R := ⟨_, rfl⟩
  rw [hR]
  have HR := Aside0.mk hR
  clear hR
  go_enter Tryd.func12, Tryd.ntmps12
  go_wp2_with fail
  refine (runs_calls _).mono ?_
  rintro e w1 ⟨g, c, rfl, hg, hc, hC, hb⟩
  have HC := Aside0.mk hC
  have HB1 := Aside0.mk hb
  have EN1 := Aside0.mk (EN.out.below hb h2)
  have hs1 := hb.size
  clear hC hb
  go_wp2
  go_loopw [8] (fun v8 wr => ∃ k : Nat, v8 = .int .i64 k ∧ k ≤ 16 ∧ Aside0 (Below w1.heap.size w1 wr) ∧ Aside0 (nameFrom op (runsL.drop k) = R)) (fun v8 _ => (16 - intOf v8).toNat)
  case atStart => exact ⟨0, rfl, by omega, ⟨Below.refl _ _⟩, ⟨by rw [← HR.out, List.drop_zero]; exact nameFrom_runs op⟩⟩
  case round =>
    obtain ⟨k, rfl, hk, HB, HN⟩ := hrel
    have hsr := HB.out.size
    by_cases hq : k < 16
    · obtain ⟨hm, hd⟩ := rd_runs k hq
      obtain ⟨ad, e0, c1, c2⟩ := at_T41 (Kd.C_below HC.out (HB.out.mono (Nat.le_refl _))) (k : Int) (by omega) (by omega)
      obtain ⟨x, hx⟩ : ∃ x, rd_T41 runsL (k : Int) = x := ⟨_, rfl⟩
      rw [hx] at hm hd c1 c2
      obtain ⟨b1, b2, b3, b4, b5, b6⟩ := run_ok x hm
      obtain rfl := (Option.some.inj e0).symm
      have HN2 : Aside0 (nameFrom op (x :: runsL.drop (k + 1)) = R) := ⟨by rw [← hd]; exact HN.out⟩
      obtain ⟨f, s⟩ := x
      have b1' : 0 ≤ f := b1
      have b2' : f ≤ 65536 := b2
      rw [Addr.add_lit, Int.toNat_natCast, Nat.zero_add] at c1 c2
      have d1 : wr.cell? ⟨g, k * 2, none⟩ = some (.int .i64 f) := c1
      have d2 : wr.cell? ⟨g, k * 2 + 1, none⟩ = some (.string s) := c2
      have qi : (k : Int) < 16 := by omega
      clear c1 c2 b1 b2 e0 hd hx
      by_cases t1 : op < f
      · have e : nameFrom op (runsL.drop (k + 1)) = R := by
          rw [← HN2.out]; simp only [nameFrom]; rw [if_pos (.inl t1)]
        have E := Aside0.mk e
        clear e HN2 HN hm b3 b4 b5 b6
        go_wp2
        exact ⟨⟨k + 1, by simp, by omega, ⟨HB.out.alloc (by omega) _⟩, E⟩, by simp [intOf]; omega⟩
      · by_cases t2 : f + 50 < op
        · have e : nameFrom op (runsL.drop (k + 1)) = R := by
            rw [← HN2.out]; simp only [nameFrom]; rw [if_pos (.inr t2)]
          have E := Aside0.mk e
          clear e HN2 HN hm b3 b4 b5 b6
          go_wp2
          exact ⟨⟨k + 1, by simp, by omega, ⟨HB.out.alloc (by omega) _⟩, E⟩, by simp [intOf]; omega⟩
        · have EN2 : Env wr := EN1.out.below HB.out (by omega)
          have hL1 : Go.Lib.fields s.data.toList = flds ⟨f, s⟩ := rfl
          generalize hL : flds ⟨f, s⟩ = L at b3 b6 hL1
          have e1 : nameFrom op (⟨f, s⟩ :: runsL.drop (k + 1)) = if op - f < L.length then L.getD (op - f).toNat [] else nameFrom op (runsL.drop (k + 1)) := by
            simp only [nameFrom, hL]; rw [if_neg (by omega)]
          rw [e1] at HN2
          have S5 := Aside0.mk b5
          have S4 := Aside0.mk b4
          have SL := Aside0.mk hL1
          have EN3 := Aside0.mk EN2
          clear e1 hL hL1 HN hm b4 b5 b6 EN2
          obtain ⟨i, hi⟩ : ∃ i : Nat, op = f + i := ⟨(op - f).toNat, by omega⟩
          subst hi
          have hi50 : (i : Int) ≤ 50 := by omega
          have ei : (f + (i : Int) - f).toNat = i := by omega
          rw [ei] at HN2
          have ew : f + (i : Int) - f = i := by omega
          rw [ew] at HN2
          clear ei t1 t2
          have t1 : ¬ f + (i : Int) < f := by omega
          have t2 : ¬ f + 50 < f + (i : Int) := by omega
          by_cases t3 : (i : Int) < L.length
          · rw [if_pos t3] at HN2
            have hj : L[i]? = some R := by
              have hlt : i < L.length := by omega
              rw [List.getElem?_eq_getElem hlt]
              rw [← HN2.out, List.getD_eq_getElem?_getD, List.getElem?_eq_getElem hlt]
              rfl
            have HJ := Aside0.mk hj
            clear hj HN2
            go_wp2_with fail
            refine (Fields_val s L SL.out _ (EN3.out.alloc _) S4.out S5.out).mono ?_
            rintro e w2 ⟨g2, rfl, hg2, hcell, hb⟩
            have j1 : w2.cell? ⟨wr.heap.size, 0, none⟩ = some (.int .i64 f) := (hb.cell (p := ⟨wr.heap.size, 0, none⟩) (by simp)).trans (by simp)
            have j2 := hcell i R HJ.out
            have HB2 := Aside0.mk hb
            clear hb hcell
            go_wp2
            go_ret
            exact ⟨rfl, HB1.out.trans ((HB.out.mono hs1).trans ((Below.alloc (Below.refl _ _) (by omega) _).trans (HB2.out.mono (by simp; omega))))⟩
          · rw [if_neg t3] at HN2
            go_wp2_with fail
            refine (Fields_val s L SL.out _ (EN3.out.alloc _) S4.out S5.out).mono ?_
            rintro e w2 ⟨g2, rfl, hg2, hcell, hb⟩
            have j1 : w2.cell? ⟨wr.heap.size, 0, none⟩ = some (.int .i64 f) := (hb.cell (p := ⟨wr.heap.size, 0, none⟩) (by simp)).trans (by simp)
            have HB2 := Aside0.mk hb
            clear hb hcell
            go_wp2
            exact ⟨⟨k + 1, by simp, by omega, ⟨(HB.out.alloc (by omega) _).trans (HB2.out.mono (by simp; omega))⟩, HN2⟩, by simp [intOf]; omega⟩
    · obtain rfl : k = 16 := by omega
      have hR : R = [] := by
        have h := HN.out
        have e : runsL.drop 16 = [] := List.drop_eq_nil_of_le (by rw [runs_len]; omega)
        rw [e] at h
        exact h.symm
      subst hR
      go_wp2
      go_ret
      exact ⟨rfl, HB1.out.trans (HB.out.mono hs1)⟩
end Go.Proofs.YtahaknhgkmhniaaDoor.Ops
