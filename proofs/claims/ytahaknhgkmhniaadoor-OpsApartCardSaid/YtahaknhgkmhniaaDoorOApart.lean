/- Layer 5: the walk of the statement OpsApart. -/
import Derived.Test.YtahaknhgkmhniaaDoorOPlain
namespace Go.Proofs.YtahaknhgkmhniaaDoor.Ops
open Go Go.RowKit Go.Proofs.YtahaknhgkmhniaaDoorW.PrintWords Go.Proofs.YtahaknhgkmhniaaDoor.POpsAll
set_option maxRecDepth 100000
set_option maxHeartbeats 4000000 in
theorem OpsApart_law (a b : Int) (w : World) (henv : Env w) : Calls Tryd.prog 5 #[.int .i64 a, .int .i64 b] w fun e w' => e = .returned (.bool true) ∧ Below w.heap.size w w' := by
  have h2 := henv.lt
  have EN := Aside0.mk henv
  have HB := Aside0.mk (Below.refl w.heap.size w)
  clear henv
  have NA := Aside0.mk (fun w => Name_val a w)
  have NB := Aside0.mk (fun w => Name_val b w)
  have SA := Aside0.mk (fun w => Shape_val a w)
  have FA := Aside0.mk (fun w => Find_val ⟨(opName a).toArray⟩ w)
  have KA := Aside0.mk (fun w => Known_val a w)
  have BA := Aside0.mk (fun w => Bytes_val a w)
  by_cases hx : opName a = []
  · have q1 : opShape a = 0 := (shape_zero a).2 hx
    have q2 : ¬ 0 < opBytes a := fun h => by have := (shape_mem a).2 h; omega
    rw [hx] at NA
    rw [q1] at SA
    obtain ⟨y, hy⟩ : ∃ y, opName b = y := ⟨_, rfl⟩
    rw [hy] at NB
    obtain ⟨z, hz⟩ : ∃ z, opBytes a = z := ⟨_, rfl⟩
    rw [hz] at BA q2
    clear FA KA hx q1 hy hz
    go_enter Tryd.func5, Tryd.ntmps5
    go_wp2_with fail
    refine (NA.out _ EN.out).mono ?_
    rintro e w1 ⟨rfl, hb⟩
    have B1 := Aside0.mk (below_step HB.out hb)
    have E1 := Aside0.mk (EN.out.below B1.out h2)
    clear hb
    go_wp2_with fail
    refine (NB.out _ E1.out).mono ?_
    rintro e w2 ⟨rfl, hb⟩
    have B2 := Aside0.mk (below_step B1.out hb)
    have E2 := Aside0.mk (EN.out.below B2.out h2)
    clear hb
    go_wp2_with fail
    refine (SA.out _ E2.out).mono ?_
    rintro e w3 ⟨rfl, hb⟩
    have B3 := Aside0.mk (below_step B2.out hb)
    have E3 := Aside0.mk (EN.out.below B3.out h2)
    clear hb
    go_wp2_with fail
    refine (BA.out _).mono ?_
    rintro e w4 ⟨rfl, hb⟩
    have B4 := Aside0.mk (below_step B3.out hb)
    have E4 := Aside0.mk (EN.out.below B4.out h2)
    clear hb
    go_wp2_with fail
    refine (SA.out _ E4.out).mono ?_
    rintro e w5 ⟨rfl, hb⟩
    have B5 := Aside0.mk (below_step B4.out hb)
    have E5 := Aside0.mk (EN.out.below B5.out h2)
    clear hb
    go_wp2_with fail
    refine (All_slice _ E5.out).mono ?_
    rintro e w6 ⟨g, c, rfl, hc, _, hb⟩
    have B6 := Aside0.mk (below_step B5.out hb)
    have E6 := Aside0.mk (EN.out.below B6.out h2)
    clear hb
    go_wp2_with fail
    refine (known_val _ E6.out).mono ?_
    rintro e w7 ⟨rfl, hb⟩
    have B7 := Aside0.mk (below_step B6.out hb)
    clear hb
    go_wp2
    go_ret
    exact ⟨rfl, B7.out⟩
  have q1 : opShape a ≠ 0 := fun h => hx ((shape_zero a).1 h)
  have q2 : (opShape a == 0) = false := beq_eq_false_iff_ne.2 q1
  have q3 : findOp ⟨(opName a).toArray⟩ = a := find_name a _ (by rw [ByteArray.toList_eq]) hx
  have q4 : opKnown a = false := name_known a hx
  have q5 : (opName a).isEmpty = false := by cases h : opName a with | nil => exact absurd h hx | cons _ _ => rfl
  have q6 : (opName a == opName b) = (a == b) := by
    by_cases e : a = b
    · subst e; simp
    · rw [beq_eq_false_iff_ne.2 e, beq_eq_false_iff_ne]
      exact fun h => e (name_inj a b hx h)
  rw [q3] at FA
  rw [q4] at KA
  have q7 := shape_mem a
  obtain ⟨x, hxe⟩ : ∃ x, opName a = x := ⟨_, rfl⟩
  rw [hxe] at NA FA q5 q6
  obtain ⟨y, hy⟩ : ∃ y, opName b = y := ⟨_, rfl⟩
  rw [hy] at NB q6
  obtain ⟨z, hz⟩ : ∃ z, opBytes a = z := ⟨_, rfl⟩
  rw [hz] at BA q7
  obtain ⟨s, hs⟩ : ∃ s, opShape a = s := ⟨_, rfl⟩
  rw [hs] at SA q7 q2
  clear hx q1 q3 q4 hxe hy hz hs
  have q8 : (0 < z ∧ (s == 8) = true) ∨ (¬ 0 < z ∧ (s == 8) = false) := by
    by_cases h : 0 < z
    · exact .inl ⟨h, beq_iff_eq.2 (q7.2 h)⟩
    · exact .inr ⟨h, beq_eq_false_iff_ne.2 (fun e => h (q7.1 e))⟩
  clear q7
  have q9 : ((x == y) = true ∧ (a == b) = true) ∨ ((x == y) = false ∧ (a == b) = false) := by
    cases h : (a == b)
    · rw [h] at q6; exact .inr ⟨q6, rfl⟩
    · rw [h] at q6; exact .inl ⟨q6, rfl⟩
  clear q6
  rcases q8 with ⟨z1, z2⟩ | ⟨z1, z2⟩ <;> rcases q9 with ⟨y1, y2⟩ | ⟨y1, y2⟩
  all_goals
    go_enter Tryd.func5, Tryd.ntmps5
    go_wp2_with fail
    refine (NA.out _ EN.out).mono ?_
    rintro e w1 ⟨rfl, hb⟩
    have B1 := Aside0.mk (below_step HB.out hb)
    have E1 := Aside0.mk (EN.out.below B1.out h2)
    clear hb
    go_wp2_with fail
    refine (NB.out _ E1.out).mono ?_
    rintro e w2 ⟨rfl, hb⟩
    have B2 := Aside0.mk (below_step B1.out hb)
    have E2 := Aside0.mk (EN.out.below B2.out h2)
    clear hb
    go_wp2_with fail
    refine (SA.out _ E2.out).mono ?_
    rintro e w3 ⟨rfl, hb⟩
    have B3 := Aside0.mk (below_step B2.out hb)
    have E3 := Aside0.mk (EN.out.below B3.out h2)
    clear hb
    go_wp2_with fail
    refine (FA.out _ E3.out).mono ?_
    rintro e w4 ⟨rfl, hb⟩
    have B4 := Aside0.mk (below_step B3.out hb)
    have E4 := Aside0.mk (EN.out.below B4.out h2)
    clear hb
    go_wp2_with fail
    refine (KA.out _).mono ?_
    rintro e w5 ⟨rfl, hb⟩
    have B5 := Aside0.mk (below_step B4.out hb)
    clear hb
    go_wp2_with fail
    refine (BA.out _).mono ?_
    rintro e w6 ⟨rfl, hb⟩
    have B6 := Aside0.mk (below_step B5.out hb)
    have E6 := Aside0.mk (EN.out.below B6.out h2)
    clear hb
    go_wp2_with fail
    refine (SA.out _ E6.out).mono ?_
    rintro e w7 ⟨rfl, hb⟩
    have B7 := Aside0.mk (below_step B6.out hb)
    have E7 := Aside0.mk (EN.out.below B7.out h2)
    clear hb
    go_wp2_with fail
    refine (All_slice _ E7.out).mono ?_
    rintro e w8 ⟨g, c, rfl, hc, _, hb⟩
    have B8 := Aside0.mk (below_step B7.out hb)
    have E8 := Aside0.mk (EN.out.below B8.out h2)
    clear hb
    go_wp2_with fail
    refine (known_val _ E8.out).mono ?_
    rintro e w9 ⟨rfl, hb⟩
    have B9 := Aside0.mk (below_step B8.out hb)
    clear hb
    go_wp2
    go_ret
    exact ⟨rfl, B9.out⟩
end Go.Proofs.YtahaknhgkmhniaaDoor.Ops
