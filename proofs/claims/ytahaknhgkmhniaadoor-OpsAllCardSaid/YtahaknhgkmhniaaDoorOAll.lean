/- Layer 5: the walk of ops.All. -/
import Derived.Test.YtahaknhgkmhniaaDoorOName
namespace Go.Proofs.YtahaknhgkmhniaaDoor.Ops
open Go Go.RowKit Go.Proofs.YtahaknhgkmhniaaDoorW.PrintWords Go.Proofs.YtahaknhgkmhniaaDoor.POpsAll
section
variable {P : Program} {ops : Array Oper} {rest : List Oper} {o : Oper} {a : Act} {Q : Exit → Act → World → Prop} {W : World}
theorem gateB {b : Builtin} {xs : Array Operand} {ts : Array TypeId} (_ho : o.op = .call { callee := .builtin b, args := xs, argTypes := ts }) (h : wpList P ops Q (o :: rest) a W) : wpList P ops Q (o :: rest) a W := h
end
theorem info23 : (Tryd.prog.info? 23).map (fun i => (i.zero, i.size, i.bytes)) = some (some (.int .i64 0), 1, 8) := by kernel_rfl
def seqI (f : Int) : Nat → List Int
  | 0 => []
  | n + 1 => f :: seqI (f + 1) n
theorem num_fst : ∀ (l : List (List UInt8)) (f : Int), (num f l).map Prod.fst = seqI f l.length
  | [], _ => rfl
  | n :: l, f => by simp [num, seqI, num_fst l (f + 1)]
def restO (l : List S41) : List Int := l.flatMap (fun x => seqI x.f0 (flds x).length)
theorem restO_eq : ∀ l : List S41, restO l = (l.flatMap (fun x => num x.f0 (flds x))).map Prod.fst
  | [] => rfl
  | x :: l => by
    have ih := restO_eq l
    simp only [restO] at ih
    simp only [restO, List.flatMap_cons, List.map_append, num_fst, ih]
theorem restO_runs : restO runsL = ops := by rw [restO_eq, flat_eq]; rfl
theorem ops_len : ops.length = 167 := by unfold ops; rw [List.length_map, flat_len]
set_option maxHeartbeats 2000000 in
set_option maxRecDepth 100000 in
theorem All_val (w : World) (henv : Env w) : Calls Tryd.prog 10 #[] w fun e w' => ∃ v, e = .returned v ∧ Kd.R (Kd.int .i64) 23 w' w.heap.size (fun _ => True) v ops ∧ Below w.heap.size w w' := by
  have EN := Aside0.mk henv
  have h2 := henv.lt
  clear henv
  obtain ⟨R, hR⟩ : ∃ R, ops = R := ⟨_, rfl⟩
  have hlen : R.length = 167 := by rw [← hR]; exact ops_len
  rw [hR]
  have HR := Aside0.mk hR
  clear hR
  go_enter Tryd.func10, Tryd.ntmps10
  go_wp2_with fail
  refine (runs_calls _).mono ?_
  rintro e w1 ⟨g, c, rfl, hg, hc, hC, hb⟩
  have HC := Aside0.mk hC
  have HB1 := Aside0.mk hb
  have EN1 := Aside0.mk (EN.out.below hb h2)
  have hs1 := hb.size
  clear hC hb
  go_wp2
  go_loopw [1, 7] (fun v1 v7 wr => ∃ (k : Nat) (acc : List Int), v7 = .int .i64 k ∧ k ≤ 16 ∧ Aside0 (Below w1.heap.size w1 wr) ∧ Aside0 (Kd.R (Kd.int .i64) 23 wr w1.heap.size (fun _ => True) v1 acc) ∧ Aside0 (acc ++ restO (runsL.drop k) = R)) (fun _ v7 _ => (16 - intOf v7).toNat)
  case atStart => exact ⟨0, [], rfl, by omega, ⟨Below.refl _ _⟩, ⟨Kd.R_nil _ _ _ _ _⟩, ⟨by rw [← HR.out, List.drop_zero]; exact restO_runs⟩⟩
  case round =>
    obtain ⟨k, acc, rfl, hk, HB, HO, HN⟩ := hrel
    have hsr := HB.out.size
    by_cases hq : k < 16
    · obtain ⟨hm, hd⟩ := rd_runs k hq
      obtain ⟨ad, e0, c1, c2⟩ := at_T41 (Kd.C_below HC.out (HB.out.mono (Nat.le_refl _))) (k : Int) (by omega) (by omega)
      obtain ⟨x, hx⟩ : ∃ x, rd_T41 runsL (k : Int) = x := ⟨_, rfl⟩
      rw [hx] at hm hd c1 c2
      obtain ⟨b1, b2, b3, b4, b5, b6⟩ := run_ok x hm
      obtain rfl := (Option.some.inj e0).symm
      have HN2 : acc ++ restO (x :: runsL.drop (k + 1)) = R := by rw [← hd]; exact HN.out
      obtain ⟨f, s⟩ := x
      have b1' : 0 ≤ f := b1
      have b2' : f ≤ 65536 := b2
      rw [Addr.add_lit, Int.toNat_natCast, Nat.zero_add] at c1 c2
      have d1 : wr.cell? ⟨g, k * 2, none⟩ = some (.int .i64 f) := c1
      have d2 : wr.cell? ⟨g, k * 2 + 1, none⟩ = some (.string s) := c2
      have qi : (k : Int) < 16 := by omega
      have hL1 : Go.Lib.fields s.data.toList = flds ⟨f, s⟩ := rfl
      have HN3 : acc ++ (seqI f (flds ⟨f, s⟩).length ++ restO (runsL.drop (k + 1))) = R := by
        rw [← HN2]; simp only [restO, List.flatMap_cons]
      generalize hL : flds ⟨f, s⟩ = L at b3 b6 hL1 HN3
      obtain ⟨T, hT⟩ : ∃ T, restO (runsL.drop (k + 1)) = T := ⟨_, rfl⟩
      rw [hT] at HN3
      have HT := Aside0.mk hT
      have HN4 := Aside0.mk HN3
      have S5 := Aside0.mk b5
      have S4 := Aside0.mk b4
      have SL := Aside0.mk hL1
      have EN3 := Aside0.mk (EN1.out.below HB.out (by omega))
      clear c1 c2 b1 b2 e0 hd hx hL hL1 HN HN2 HN3 hm b4 b5 b6 hT
      go_wp2_with fail
      refine (Fields_val s L SL.out _ (EN3.out.alloc _) S4.out S5.out).mono ?_
      rintro e w2 ⟨g2, rfl, hg2, hcell, hb⟩
      have j1 : w2.heap[wr.heap.size]? = some (.cells #[.int .i64 f, .string s] 41 (0, 0)) := (hb.block _ (by simp)).trans (heap_alloc_new wr _)
      have J1 := Aside0.mk j1
      have HB2 := Aside0.mk ((Below.alloc (Below.refl wr.heap.size wr) (Nat.le_refl _) _).trans (hb.mono (by simp)))
      have hs2 := HB2.out.size
      have HO2 := Aside0.mk (Kd.R_below HO.out HB2.out)
      have HB3 := Aside0.mk (HB.out.trans (HB2.out.mono hsr))
      clear hb hcell j1 HO HB HB2
      obtain ⟨b3k, hb3⟩ : ∃ b, wr.heap.size = b := ⟨_, rfl⟩
      rw [hb3] at J1
      go_wp2
      go_loopw [1, 15] (fun v1 v15 wi => ∃ (j : Nat) (ac : List Int), v15 = .int .i64 j ∧ j ≤ L.length ∧ Aside0 (Below w1.heap.size w1 wi) ∧ Aside0 (Kd.R (Kd.int .i64) 23 wi w1.heap.size (fun _ => True) v1 ac) ∧ Aside0 (ac ++ (seqI (f + j) (L.length - j) ++ T) = R) ∧ Aside0 (wi.heap[b3k]? = some (.cells #[.int .i64 f, .string s] 41 (0, 0)))) (fun _ v15 _ => ((L.length : Int) - intOf v15).toNat)
      case atStart => exact ⟨0, acc, rfl, by omega, HB3, HO2, ⟨by simpa using HN4.out⟩, J1⟩
      case round =>
        obtain ⟨j, ac, rfl, hj, HBi, HOi, HNi, Ji⟩ := hrel
        by_cases hq2 : j < L.length
        · have qj : (j : Int) < L.length := by omega
          have hac : ac.length ≤ 166 := by
            have h := congrArg List.length HNi.out
            have e : L.length - j = (L.length - (j + 1)) + 1 := by omega
            rw [e] at h
            simp only [seqI, List.length_append, List.length_cons, hlen] at h
            omega
          have k1 : wr.cell? ⟨b3k, 0, none⟩ = some (.int .i64 f) := by rw [cell_of_row wr b3k 0 _ 41 (0, 0) Ji.out]; rfl
          have HX : Aside0 ((ac ++ [f + (j : Int)]) ++ (seqI (f + ((j + 1 : Nat) : Int)) (L.length - (j + 1)) ++ T) = R) := ⟨by
            rw [← HNi.out]
            have e : L.length - j = (L.length - (j + 1)) + 1 := by omega
            have e2 : f + ((j + 1 : Nat) : Int) = f + (j : Int) + 1 := by omega
            rw [e, e2]
            simp [seqI]⟩
          clear HNi
          go_wp2_with (first | ((with_reducible refine gateB (b := .append) (xs := #[.tmp 18, .tmp 23]) rfl ?_); at_builtin; refine Kd.R_append (Kd.int .i64) (w0 := w1) w1.heap.size rfl (.tmp 18) (.tmp 23) 26 23 (.int .i64 0) 8 rfl Tryd.underlying26 info23 rfl (by decide) (by omega) _ ac (f + (j : Int)) [.int .i64 (f + (j : Int))] (fun _ => True) (fun _ => False) rfl rfl ?aP (fun _ hk => hk.elim) ?aF ?aO ?aB ?aS ?aL ?_; (case aP => exact rfl); (case aF => exact (fun _ _ => trivial)); (case aO => exact HOi.out); (case aB => exact HBi.out); (case aS => exact HBi.out.size); (case aL => omega); intro v2 w3 ho hb hg hat; have HO3 := Aside0.mk ho; have HB4 := Aside0.mk hb; have HG := Aside0.mk hg; clear ho hb hg hat) | fail)
          have hne := Kd.R_ne HOi.out Ji.out (by decide)
          have J3 : Aside0 (w3.heap[b3k]? = some (.cells #[.int .i64 f, .string s] 41 (0, 0))) := ⟨(HG.out.block b3k (Array.getElem?_eq_some_iff.1 Ji.out).1 hne).trans Ji.out⟩
          exact ⟨⟨j + 1, _, by simp, by omega, HB4, HO3, HX, J3⟩, by simp [intOf]; omega⟩
        · obtain rfl : j = L.length := by omega
          have HX : Aside0 (ac ++ restO (runsL.drop (k + 1)) = R) := ⟨by
            rw [HT.out, ← HNi.out]; simp [seqI]⟩
          clear HNi
          go_wp2
          exact ⟨⟨k + 1, ac, by simp, by omega, HBi, HOi, HX⟩, by simp [intOf]; omega⟩
    · obtain rfl : k = 16 := by omega
      have hacc : acc = R := by
        have h := HN.out
        have e : runsL.drop 16 = [] := List.drop_eq_nil_of_le (by rw [runs_len]; omega)
        rw [e] at h
        simpa [restO] using h
      subst hacc
      go_wp2
      go_ret
      exact ⟨_, rfl, Kd.R_lower HO.out hs1, HB1.out.trans (HB.out.mono hs1)⟩
end Go.Proofs.YtahaknhgkmhniaaDoor.Ops
