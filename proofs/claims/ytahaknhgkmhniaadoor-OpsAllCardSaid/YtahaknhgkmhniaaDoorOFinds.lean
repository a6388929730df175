/- Layer 5: the walk of the statement OpsFind. -/
import Derived.Test.YtahaknhgkmhniaaDoorORefB
import Derived.Test.YtahaknhgkmhniaaDoorOPlain
namespace Go.Proofs.YtahaknhgkmhniaaDoor.Ops
open Go Go.RowKit Go.Proofs.YtahaknhgkmhniaaDoorW.PrintWords Go.Proofs.YtahaknhgkmhniaaDoor.POpsAll
set_option maxRecDepth 100000
def fi3 (s : ByteArray) : List ByteArray → Int → Int
  | [], _ => -1
  | n :: l, i => if (n.toList == s.toList) = true then i else fi3 s l (i + 1)
theorem fi3_fi2 (s : ByteArray) : ∀ (l : List (Int × List UInt8)) (i : Int), fi3 s (l.map fun p => (⟨p.2.toArray⟩ : ByteArray)) i = fi2 s.toList l i
  | [], _ => rfl
  | p :: l, i => by
    simp only [List.map_cons, fi3, fi2]
    rw [fi3_fi2 s l (i + 1)]
    have e : (⟨p.2.toArray⟩ : ByteArray).toList = p.2 := by rw [ByteArray.toList_eq]
    rw [e]
    by_cases h : p.2 = s.toList
    · rw [if_pos h, if_pos (by simpa using h)]
    · rw [if_neg h, if_neg (by simpa using h)]
theorem findOp_nil (s : ByteArray) (h : s.toList = []) : findOp s = -1 := by
  have g : ∀ (l : List Int) (i : Int), firstIx (pF s) l i = -1 := by
    intro l
    induction l with
    | nil => intro i; rfl
    | cons x l ih =>
      intro i
      simp only [firstIx]
      rw [if_neg (by unfold pF; rw [h]; simp)]
      exact ih _
  unfold findOp
  rw [g]
  rfl
theorem fi2_nil : fi2 [] flat 0 = -1 := by decide +kernel
theorem find_fi3 (s : ByteArray) : findOp s = if fi3 s namesL 0 < 0 then -1 else ops.getD (fi3 s namesL 0).toNat 0 := by
  have e : fi3 s namesL 0 = fi2 s.toList flat 0 := fi3_fi2 s flat 0
  rw [e]
  by_cases h : s.toList = []
  · rw [findOp_nil s h, h, fi2_nil]; rfl
  · exact findOp_fi2 s h
theorem fi3_range (s : ByteArray) : ∀ (l : List ByteArray) (i : Int), 0 ≤ i → fi3 s l i = -1 ∨ i ≤ fi3 s l i
  | [], _, _ => .inl rfl
  | n :: l, i, h => by
    simp only [fi3]
    split
    · right; omega
    · rcases fi3_range s l (i + 1) (by omega) with e | e
      · exact .inl e
      · right; omega
set_option maxHeartbeats 4000000 in
theorem refFind_val (s : ByteArray) (w : World) : Calls Tryd.prog 9 #[.string s] w fun e w' => e = .returned (.int .i64 (findOp s)) ∧ Below w.heap.size w w' := by
  obtain ⟨R, hR⟩ : ∃ R, findOp s = R := ⟨_, rfl⟩
  have hF := find_fi3 s
  rw [hR] at hF ⊢
  have HF := Aside0.mk hF
  clear hR hF
  go_enter Tryd.func9, Tryd.ntmps9
  go_wp2_with fail
  refine (refOps_val _).mono ?_
  rintro e w1 ⟨v2, v3, rfl, h2, h3, hb⟩
  obtain ⟨A2, c2, rfl, hA2⟩ := R_slice0 h2
  obtain ⟨A3, c3, rfl, hA3⟩ := R_slice0 h3
  have C2 := Aside0.mk (R_C h2)
  have C3 := Aside0.mk (R_C h3)
  have HB := Aside0.mk hb
  obtain ⟨g2, rfl, _⟩ := hA2 (by rw [ops_len]; omega)
  obtain ⟨g3, rfl, _⟩ := hA3 (by rw [namesL_len]; omega)
  rw [ops_len] at C2
  rw [namesL_len] at C3
  rw [ops_len, namesL_len]
  clear h2 h3 hb hA2 hA3
  go_wp2
  go_loopw [5] (fun v5 wr => ∃ j : Nat, v5 = .int .i64 j ∧ j ≤ 167 ∧ wr = w1 ∧ Aside0 (fi3 s (namesL.drop j) j = fi3 s namesL 0)) (fun v5 _ => (167 - intOf v5).toNat)
  case atStart => exact ⟨0, rfl, by omega, rfl, ⟨by rw [List.drop_zero]; rfl⟩⟩
  case round =>
    obtain ⟨j, rfl, hj, rfl, HN⟩ := hrel
    by_cases hq : j < 167
    · have qi : (j : Int) < 167 := by omega
      have hlt : j < namesL.length := by rw [namesL_len]; exact hq
      have c0 := C_cell C3.out ⟨#[]⟩ j hq
      have d0 := C_cell C2.out 0 j hq
      obtain ⟨n, hn⟩ : ∃ n, namesL.getD j ⟨#[]⟩ = n := ⟨_, rfl⟩
      obtain ⟨y, hy⟩ : ∃ y, ops.getD j 0 = y := ⟨_, rfl⟩
      rw [hn] at c0
      rw [hy] at d0
      have hd : namesL.drop j = n :: namesL.drop (j + 1) := by
        rw [List.drop_eq_getElem_cons hlt, ← hn, List.getD_eq_getElem?_getD, List.getElem?_eq_getElem hlt]; rfl
      have HN2 := HN.out
      rw [hd] at HN2
      simp only [fi3] at HN2
      cases hp : (n.toList == s.toList) with
      | true =>
        rw [if_pos hp] at HN2
        have e : R = y := by
          rw [HF.out, ← HN2, if_neg (by omega), Int.toNat_natCast]; exact hy
        subst e
        clear HN2 hn hy hd HN HF
        go_wp2
        go_ret
        exact ⟨rfl, HB.out⟩
      | false =>
        rw [if_neg (by rw [hp]; decide)] at HN2
        have HN3 := Aside0.mk HN2
        clear HN2 hn hy hd HN
        go_wp2
        exact ⟨⟨j + 1, by simp, by omega, by simp, ⟨HN3.out⟩⟩, by simp [intOf]; omega⟩
    · obtain rfl : j = 167 := by omega
      have e : R = -1 := by
        have h := HN.out
        rw [← namesL_len, List.drop_length] at h
        have h2 : fi3 s namesL 0 = -1 := h.symm
        rw [HF.out, h2]; rfl
      subst e
      clear HN HF
      go_wp2
      go_ret
      exact ⟨rfl, HB.out⟩
set_option maxHeartbeats 4000000 in
theorem OpsFind_law (s : ByteArray) (w : World) (henv : Env w) : Calls Tryd.prog 3 #[.string s] w fun e w' => e = .returned (.bool true) ∧ Below w.heap.size w w' := by
  have h2 := henv.lt
  have EN := Aside0.mk henv
  clear henv
  by_cases hz : (100 : Int) < s.size
  · go_enter Tryd.func3, Tryd.ntmps3
    go_wp2_with fail
    refine (known_val _ EN.out).mono ?_
    rintro e w1 ⟨rfl, hb⟩
    have B1 := Aside0.mk hb
    clear hb
    go_wp2
    go_ret
    exact ⟨rfl, B1.out⟩
  · have FA := Aside0.mk (fun w (h : Env w) => Find_val s w h)
    have FB := Aside0.mk (fun w => refFind_val s w)
    obtain ⟨R, hR⟩ : ∃ R, findOp s = R := ⟨_, rfl⟩
    rw [hR] at FA FB
    clear hR
    go_enter Tryd.func3, Tryd.ntmps3
    go_wp2_with fail
    refine (FA.out _ EN.out).mono ?_
    rintro e w1 ⟨rfl, hb⟩
    have B1 := Aside0.mk hb
    clear hb
    go_wp2_with fail
    refine (FB.out _).mono ?_
    rintro e w2 ⟨rfl, hb⟩
    have B2 := Aside0.mk (below_step B1.out hb)
    have E2 := Aside0.mk (EN.out.below B2.out h2)
    clear hb
    go_wp2_with fail
    refine (known_val _ E2.out).mono ?_
    rintro e w3 ⟨rfl, hb⟩
    have B3 := Aside0.mk (below_step B2.out hb)
    clear hb
    go_wp2
    go_ret
    exact ⟨rfl, B3.out⟩
end Go.Proofs.YtahaknhgkmhniaaDoor.Ops
