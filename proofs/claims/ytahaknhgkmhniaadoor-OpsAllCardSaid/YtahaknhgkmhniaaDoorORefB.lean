/- Layer 5: the walk of the reference's Ops. -/
import Derived.Test.YtahaknhgkmhniaaDoorORefA
namespace Go.Proofs.YtahaknhgkmhniaaDoor.Ops
open Go Go.RowKit Go.Proofs.YtahaknhgkmhniaaDoorW.PrintWords Go.Proofs.YtahaknhgkmhniaaDoor.POpsAll
set_option maxRecDepth 100000
theorem lf_len : lf.length = 18 := by decide +kernel
theorem rd_lf (k : Nat) (hk : k < 18) : rd_T41 lf (k : Int) ∈ lf ∧ lf.drop k = rd_T41 lf (k : Int) :: lf.drop (k + 1) ∧ linesV[k]? = some (.string (rd_T41 lf (k : Int)).f1) ∧ firstsV[k]? = some (.int .i64 (rd_T41 lf (k : Int)).f0) := by
  have hlt : k < lf.length := by rw [lf_len]; exact hk
  have e : rd_T41 lf (k : Int) = lf[k] := by
    unfold rd_T41
    rw [Int.toNat_natCast, List.getD_eq_getElem?_getD, List.getElem?_eq_getElem hlt]
    rfl
  rw [e]
  refine ⟨List.getElem_mem _, List.drop_eq_getElem_cons hlt, ?_, ?_⟩
  · unfold linesV
    simp [List.getElem?_eq_getElem hlt]
  · unfold firstsV
    simp [List.getElem?_eq_getElem hlt]
def namesL : List ByteArray := flat.map fun p => ⟨p.2.toArray⟩
def restN (l : List S41) : List ByteArray := l.flatMap (fun x => wordsOf x.f1)
theorem restO_lf : restO lf = ops := by decide +kernel
theorem restN_lf : restN lf = namesL := by decide +kernel
theorem namesL_len : namesL.length = 167 := by unfold namesL; rw [List.length_map, flat_len]
theorem lf_ok : lf.all (fun x => decide (0 ≤ x.f0) && decide (x.f0 ≤ 65536) && decide ((flds x).length ≤ 51)) = true := by decide +kernel
theorem words_ok (x : S41) (hx : x ∈ lf) : geoderef05_Words.f 2000 x.f1 = some (wordsOf x.f1) ∧ 0 ≤ x.f0 ∧ x.f0 ≤ 65536 ∧ (flds x).length ≤ 51 := by
  have h := List.all_eq_true.1 words_all x hx
  have h2 := List.all_eq_true.1 lf_ok x hx
  simp only [Bool.and_eq_true, decide_eq_true_eq] at h2
  exact ⟨of_decide_eq_true h, h2.1.1, h2.1.2, h2.2⟩
theorem info9b : (Tryd.prog.info? 9).map (fun i => (i.zero, i.size, i.bytes)) = some (some (.string ⟨#[]⟩), 1, 16) := by kernel_rfl
theorem R_other {α : Type} {d : Kd α} {e : Nat} {W w1 : World} {base : Nat} {ok : Nat → Prop} {v0 v v1 : Value} {L : List α} (HW : d.R e W base ok v0 L) (hok : ∀ k, ok k → some k ≠ v.ownBlock) (hg : W.grownBy w1 v.ownBlock)
    (hat : v1.ownBlock = v.ownBlock ∨ ∃ b, v1.ownBlock = some b ∧ W.heap.size ≤ b) : d.R e w1 base (fun k => some k ≠ v1.ownBlock) v0 L := by
  refine Kd.R_mono (Kd.R_grown (Kd.R_bound HW) hg (fun k hk => hok k hk.1)) (fun k hk => ?_)
  rcases hat with h | ⟨b, h, hb⟩
  · rw [h]; exact hok k hk.1
  · rw [h]
    intro h2
    have h3 : k = b := by simpa using h2
    have := hk.2.2.1
    omega
theorem R_across {α β : Type} {d1 : Kd α} {d2 : Kd β} {e1 e2 : Nat} {W w1 : World} {b1 b2 : Nat} {ok1 ok2 : Nat → Prop} {v u : Value} {xs : List α} {ys : List β} (h1 : d1.R e1 W b1 ok1 v xs) (h2 : d2.R e2 W b2 ok2 u ys)
    (ht : ∀ q, q ∈ e1 :: d1.E → q ≠ e2) (hg : W.grownBy w1 u.ownBlock) : d1.R e1 w1 b1 ok1 v xs := by
  cases hu : u.ownBlock with
  | none => rw [hu] at hg; exact Kd.R_grown h1 hg (fun k _ => by simp)
  | some g =>
    obtain ⟨inner, ho⟩ := Kd.R_own h2
    obtain ⟨cells, hc⟩ := own_typed ho g hu
    rw [hu] at hg
    refine Kd.R_mono (Kd.R_grown (Kd.R_types h1 hc ht) hg (fun k hk => ?_)) (fun k hk => hk.1)
    intro h3
    exact hk.2 (by simpa using h3)
theorem R_slice0 {α : Type} {d : Kd α} {e : Nat} {w : World} {base : Nat} {ok : Nat → Prop} {v : Value} {xs : List α} (h : d.R e w base ok v xs) : ∃ (A : Option Addr) (c : Nat), v = .slice A xs.length c ∧ (0 < xs.length → ∃ g, A = some ⟨g, 0, none⟩ ∧ base ≤ g) := by
  obtain ⟨A, c, rfl, _, _⟩ := Kd.R_reads h
  refine ⟨A, c, rfl, fun h0 => ?_⟩
  obtain ⟨inner, ho⟩ := Kd.R_own h
  rcases ho.2 with ⟨_, h2⟩ | ⟨g, cap, cur, h1, hg, _⟩
  · omega
  · have h3 : A = some ⟨g, 0, none⟩ ∧ c = cap := by simpa using h1
    exact ⟨g, h3.1, hg⟩
theorem R_C {α : Type} {d : Kd α} {e : Nat} {w : World} {base : Nat} {ok : Nat → Prop} {A : Option Addr} {n c : Nat} {xs : List α} (h : d.R e w base ok (.slice A n c) xs) : Kd.C d w A xs.length xs := by
  obtain ⟨A', c', he, _, hC⟩ := Kd.R_reads h
  have h2 : A = A' ∧ n = xs.length ∧ c = c' := by simpa using he
  rw [h2.1]; exact hC
set_option maxHeartbeats 8000000 in
theorem refOps_val (w : World) : Calls Tryd.prog 11 #[] w fun e w' => ∃ v2 v3, e = .returned (.tuple #[v2, v3]) ∧ Kd.R (Kd.int .i64) 23 w' w.heap.size (fun _ => True) v2 ops ∧ Kd.R Kd.string 9 w' w.heap.size (fun _ => True) v3 namesL ∧ Below w.heap.size w w' := by
  go_enter Tryd.func11, Tryd.ntmps11
  go_wp2_with fail
  refine (lines_val _).mono ?_
  rintro e w1 ⟨rfl, hb⟩
  have B1 := Aside0.mk hb
  have hs1 := hb.size
  clear hb
  go_wp2_with (first | ((with_reducible refine gateS (ty := 43) (x := .tmp 4) (y := .tmp 9) rfl ?_); refine wpList_store_row rfl 43 (.tmp 4) (.tmp 9) rfl _ linesV rfl rfl 43 _ (heap_alloc_new _ _) (info43.trans (congrArg some linesV_size.symm)) linesV_size.symm linesV_one ?_; rw [World.setRow_alloc_new]))
  refine (firsts_val _).mono ?_
  rintro e w2 ⟨rfl, hb⟩
  have hb4 : w2.heap[w1.heap.size]? = some (.cells linesV 43 (0, 0)) := (hb.block _ (by simp)).trans (heap_alloc_new w1 _)
  have B2 := Aside0.mk (B1.out.trans (((Below.alloc (Below.refl w1.heap.size w1) (Nat.le_refl _) _).trans (hb.mono (by simp))).mono hs1))
  have hs2 : w1.heap.size < w2.heap.size := by have := hb.size; simp at this; omega
  have HB4 := Aside0.mk hb4
  obtain ⟨b4, e4⟩ : ∃ b, w1.heap.size = b := ⟨_, rfl⟩
  rw [e4] at HB4 hs2
  clear hb hb4 B1 hs1
  go_wp2_with (first | ((with_reducible refine gateS (ty := 45) (x := .tmp 5) (y := .tmp 10) rfl ?_); refine wpList_store_row rfl 45 (.tmp 5) (.tmp 10) rfl _ firstsV rfl rfl 45 _ (heap_alloc_new _ _) (info45.trans (congrArg some firstsV_size.symm)) firstsV_size.symm firstsV_one ?_; rw [World.setRow_alloc_new]))
  obtain ⟨b5, e5⟩ : ∃ b, w2.heap.size = b := ⟨_, rfl⟩
  have HB5 := Aside0.mk (heap_alloc_new w2 (.cells firstsV 45))
  have HB4' := Aside0.mk (((Below.alloc (Below.refl w2.heap.size w2) (Nat.le_refl _) (.cells firstsV 45)).block b4 hs2).trans HB4.out)
  have B3 := Aside0.mk (B2.out.alloc B2.out.size (.cells firstsV 45))
  rw [e5] at HB5 hs2
  have hs3 : b5 < (w2.alloc (.cells firstsV 45)).heap.size := by simp; omega
  clear HB4 B2
  obtain ⟨w3, e3⟩ : ∃ w3, w2.alloc (.cells firstsV 45) = w3 := ⟨_, rfl⟩
  rw [e3] at HB5 HB4' B3 hs3
  have hsw := B3.out.size
  rw [e3]
  simp only [e5]
  clear e3 e4 e5
  go_wp2
  go_loopw [2, 3, 6] (fun v2 v3 v6 wr => ∃ (k : Nat) (ac1 : List Int) (ac2 : List ByteArray), v6 = .int .i64 k ∧ k ≤ 18 ∧ Aside0 (Below w3.heap.size w3 wr) ∧ Aside0 (Kd.R (Kd.int .i64) 23 wr w3.heap.size (fun _ => True) v2 ac1) ∧ Aside0 (Kd.R Kd.string 9 wr w3.heap.size (fun _ => True) v3 ac2) ∧ Aside0 (ac1 ++ restO (lf.drop k) = ops) ∧ Aside0 (ac2 ++ restN (lf.drop k) = namesL)) (fun _ _ v6 _ => (18 - intOf v6).toNat)
  case atStart => exact ⟨0, [], [], rfl, by omega, ⟨Below.refl _ _⟩, ⟨Kd.R_nil _ _ _ _ _⟩, ⟨Kd.R_nil _ _ _ _ _⟩, ⟨by rw [List.drop_zero]; exact restO_lf⟩, ⟨by rw [List.drop_zero]; exact restN_lf⟩⟩
  case round =>
    obtain ⟨k, ac1, ac2, rfl, hk, HB, H2, H3, HN1, HN2⟩ := hrel
    have hsr := HB.out.size
    by_cases hq : k < 18
    · have qi : (k : Int) < 18 := by omega
      obtain ⟨hm, hd, hl1, hl2⟩ := rd_lf k hq
      obtain ⟨x, hx⟩ : ∃ x, rd_T41 lf (k : Int) = x := ⟨_, rfl⟩
      rw [hx] at hm hd hl1 hl2
      obtain ⟨o1, o2, o3, o4⟩ := words_ok x hm
      have d4 : wr.cell? ⟨b4, k, none⟩ = some (.string x.f1) := by
        rw [cell_of_row wr b4 k _ 43 (0, 0) ((HB.out.block b4 (by omega)).trans HB4'.out)]; exact hl1
      have d5h := (HB.out.block b5 hs3).trans HB5.out
      have e1 : ac1 ++ (seqI x.f0 (flds x).length ++ restO (lf.drop (k + 1))) = ops := by
        rw [← HN1.out, hd]; simp only [restO, List.flatMap_cons]
      have e2 : ac2 ++ (wordsOf x.f1 ++ restN (lf.drop (k + 1))) = namesL := by
        rw [← HN2.out, hd]; simp only [restN, List.flatMap_cons]
      have e3 : (flds x).length = (wordsOf x.f1).length := by unfold flds wordsOf; simp
      rw [e3] at e1 o4
      obtain ⟨T1, hT1⟩ : ∃ T, restO (lf.drop (k + 1)) = T := ⟨_, rfl⟩
      obtain ⟨T2, hT2⟩ : ∃ T, restN (lf.drop (k + 1)) = T := ⟨_, rfl⟩
      rw [hT1] at e1
      rw [hT2] at e2
      obtain ⟨L, hL⟩ : ∃ L, wordsOf x.f1 = L := ⟨_, rfl⟩
      rw [hL] at e1 e2 o1 o4
      obtain ⟨f, s⟩ := x
      have o1' : geoderef05_Words.f 2000 s = some L := o1
      have o2' : 0 ≤ f := o2
      have o3' : f ≤ 65536 := o3
      have d4' : wr.cell? ⟨b4, k, none⟩ = some (.string s) := d4
      have hl2' : firstsV[k]? = some (.int .i64 f) := hl2
      have O1 := Aside0.mk o1'
      have E1 := Aside0.mk e1
      have E2 := Aside0.mk e2
      have HT1 := Aside0.mk hT1
      have HT2 := Aside0.mk hT2
      have F5 := Aside0.mk hl2'
      have D5 := Aside0.mk d5h
      clear o1 o1' o2 o3 d4 hl1 hl2 hl2' e1 e2 e3 hT1 hT2 hL hm hd hx HN1 HN2 d5h
      go_wp2_with fail
      refine (geoderef05_Words.calls 2000 s L _ O1.out).mono ?_
      rintro e w4 ⟨v0, rfl, hR, hb⟩
      obtain ⟨A, cA, rfl, hA⟩ := R_slice0 hR
      have HW := Aside0.mk (Kd.R_bound hR)
      have HBb := Aside0.mk (HB.out.trans (hb.mono hsr))
      have H2b := Aside0.mk (Kd.R_below H2.out hb)
      have H3b := Aside0.mk (Kd.R_below H3.out hb)
      have hW0 : Kd.R Kd.string 9 w4 wr.heap.size (fun q => some q ≠ (u3 : Value).ownBlock) (.slice A L.length cA) L := by
        refine Kd.R_mono HW.out (fun q hq2 => ?_)
        intro h
        obtain ⟨inn, ho⟩ := Kd.R_own H3.out
        have := own_lt ho q h.symm
        have := hq2.2.1
        omega
      have HW0 := Aside0.mk hW0
      have HBr := Aside0.mk hsr
      clear hR hb H2 H3 HW hW0 HB
      have hbw : w3.heap.size ≤ w4.heap.size := HBb.out.size
      clear d4' D5 hsr
      go_wp2
      go_loopw [2, 3, 8] (fun v2 v3 v8 wi => ∃ (j : Nat) (a1 : List Int) (a2 : List ByteArray), v8 = .int .i64 j ∧ j ≤ L.length ∧ Aside0 (Below w3.heap.size w3 wi) ∧ Aside0 (Kd.R (Kd.int .i64) 23 wi w3.heap.size (fun _ => True) v2 a1) ∧ Aside0 (Kd.R Kd.string 9 wi w3.heap.size (fun _ => True) v3 a2) ∧ Aside0 (Kd.R Kd.string 9 wi w3.heap.size (fun q => some q ≠ v3.ownBlock) (.slice A L.length cA) L) ∧ Aside0 (a1 ++ (seqI (f + j) (L.length - j) ++ T1) = ops) ∧ Aside0 (a2 ++ (L.drop j ++ T2) = namesL)) (fun _ _ v8 _ => ((L.length : Int) - intOf v8).toNat)
      case atStart => exact ⟨0, ac1, ac2, rfl, by omega, HBb, H2b, H3b, ⟨Kd.R_lower HW0.out HBr.out⟩, ⟨by simpa using E1.out⟩, ⟨by simpa using E2.out⟩⟩
      case round =>
        obtain ⟨j, a1, a2, rfl, hj, HBi, H2i, H3i, HWi, G1, G2⟩ := hrel
        by_cases hq2 : j < L.length
        · have qj : (j : Int) < L.length := by omega
          obtain ⟨g, rfl, hg⟩ := hA (by omega)
          have k1 : wr.cell? ⟨b5, k, none⟩ = some (.int .i64 f) := by
            rw [cell_of_row wr b5 k _ 45 (0, 0) ((HBi.out.block b5 hs3).trans HB5.out)]; exact F5.out
          obtain ⟨n, hn⟩ : ∃ n, L.getD j ⟨#[]⟩ = n := ⟨_, rfl⟩
          have hdj : L.drop j = n :: L.drop (j + 1) := by
            rw [List.drop_eq_getElem_cons hq2, ← hn, List.getD_eq_getElem?_getD, List.getElem?_eq_getElem hq2]; rfl
          have hlen1 : a1.length ≤ 166 := by
            have h := congrArg List.length G1.out
            have e : L.length - j = (L.length - (j + 1)) + 1 := by omega
            rw [e, ops_len] at h
            simp only [seqI, List.length_append, List.length_cons] at h
            omega
          have hlen2 : a2.length ≤ 166 := by
            have h := congrArg List.length G2.out
            rw [hdj, namesL_len] at h
            simp only [List.length_append, List.length_cons] at h
            omega
          have X1 : Aside0 ((a1 ++ [f + (j : Int)]) ++ (seqI (f + ((j + 1 : Nat) : Int)) (L.length - (j + 1)) ++ T1) = ops) := ⟨by
            rw [← G1.out]
            have e : L.length - j = (L.length - (j + 1)) + 1 := by omega
            have e2 : f + ((j + 1 : Nat) : Int) = f + (j : Int) + 1 := by omega
            rw [e, e2]
            simp [seqI]⟩
          have X2 : Aside0 ((a2 ++ [n]) ++ (L.drop (j + 1) ++ T2) = namesL) := ⟨by rw [← G2.out, hdj]; simp⟩
          have HN := Aside0.mk hn
          clear G1 G2 hdj hn
          go_wp2_with (first | ((with_reducible refine gateB (b := .append) (xs := #[.tmp 25, .tmp 31]) rfl ?_); at_builtin; refine Kd.R_append (Kd.int .i64) (w0 := w3) w3.heap.size rfl (.tmp 25) (.tmp 31) 26 23 (.int .i64 0) 8 rfl Tryd.underlying26 info23 rfl (by decide) (by omega) _ a1 (f + (j : Int)) [.int .i64 (f + (j : Int))] (fun _ => True) (fun _ => False) rfl rfl ?aP (fun _ hk => hk.elim) ?aF ?aO ?aB ?aS ?aL ?_; (case aP => exact rfl); (case aF => exact (fun _ _ => trivial)); (case aO => exact H2i.out); (case aB => exact HBi.out); (case aS => exact HBi.out.size); (case aL => omega); intro v4 w5 ho hb5 hg5 hat5; have H2n := Aside0.mk ho; have HBc := Aside0.mk hb5; have H3c := Aside0.mk (R_across H3i.out H2i.out (by decide) hg5); have HWc := Aside0.mk (R_across HWi.out H2i.out (by decide) hg5); have cw := C_cell (R_C HWc.out) ⟨#[]⟩ j hq2; rw [HN.out] at cw; clear ho hb5 hg5 hat5) | ((with_reducible refine gateB (b := .append) (xs := #[.tmp 33, .tmp 38]) rfl ?_); at_builtin; refine Kd.R_append Kd.string (w0 := w3) w3.heap.size rfl (.tmp 33) (.tmp 38) 28 9 (.string ⟨#[]⟩) 16 rfl Tryd.underlying28 info9b rfl (by decide) (by omega) _ a2 n [.string n] (fun _ => True) (fun _ => False) rfl rfl ?aP (fun _ hk => hk.elim) ?aF ?aO ?aB ?aS ?aL ?_; (case aP => exact rfl); (case aF => exact (fun _ _ => trivial)); (case aO => exact H3c.out); (case aB => exact HBc.out); (case aS => exact HBc.out.size); (case aL => omega); intro v5 w6 ho hb6 hg6 hat6; have H3n := Aside0.mk ho; have HBd := Aside0.mk hb6; have H2d := Aside0.mk (R_across H2n.out H3c.out (by decide) hg6); have HWd := Aside0.mk (R_other HWc.out (fun _ hq => hq) hg6 hat6); clear ho hb6 hg6 hat6))
          exact ⟨⟨j + 1, _, _, by simp, by omega, HBd, H2d, H3n, HWd, X1, X2⟩, by simp [intOf]; omega⟩
        · obtain rfl : j = L.length := by omega
          have X1 : Aside0 (a1 ++ restO (lf.drop (k + 1)) = ops) := ⟨by rw [HT1.out, ← G1.out]; simp [seqI]⟩
          have X2 : Aside0 (a2 ++ restN (lf.drop (k + 1)) = namesL) := ⟨by rw [HT2.out, ← G2.out]; simp⟩
          clear G1 G2
          go_wp2
          exact ⟨⟨k + 1, a1, a2, by simp, by omega, HBi, H2i, H3i, X1, X2⟩, by simp [intOf]; omega⟩
    · obtain rfl : k = 18 := by omega
      have hnil : lf.drop 18 = [] := List.drop_eq_nil_of_le (by rw [lf_len]; omega)
      have h1 : ac1 = ops := by have h := HN1.out; rw [hnil] at h; simpa [restO] using h
      have h2 : ac2 = namesL := by have h := HN2.out; rw [hnil] at h; simpa [restN] using h
      have H2' := Aside0.mk (h1 ▸ H2.out)
      have H3' := Aside0.mk (h2 ▸ H3.out)
      clear h1 h2 HN1 HN2 H2 H3 hnil
      go_wp2
      go_ret2
      exact ⟨_, _, rfl, Kd.R_lower H2'.out hsw, Kd.R_lower H3'.out hsw, B3.out.trans (HB.out.mono hsw)⟩
end Go.Proofs.YtahaknhgkmhniaaDoor.Ops
