/- Layer 5: the walk of the statements' known(). -/
import Derived.Test.YtahaknhgkmhniaaDoorOShape
import Derived.Test.YtahaknhgkmhniaaDoorOKnown
namespace Go.Proofs.YtahaknhgkmhniaaDoor.Ops
open Go Go.RowKit Go.Proofs.YtahaknhgkmhniaaDoorW.PrintWords Go.Proofs.YtahaknhgkmhniaaDoor.POpsAll
set_option maxRecDepth 100000
theorem k_name106 : opName 106 = [105, 51, 50, 46, 97, 100, 100] := by decide +kernel
theorem k_name6 : opName 6 = [] := by decide +kernel
theorem k_find : findOp ⟨#[98, 114, 95, 111, 110, 95, 99, 97, 115, 116]⟩ = 64280 := by decide +kernel
theorem k_shape17 : opShape 17 = 7 := by decide +kernel
theorem k_shape6 : opShape 6 = 0 := by decide +kernel
theorem k_known139 : opKnown 139 = true := by decide +kernel
theorem k_known253 : opKnown 253 = true := by decide +kernel
theorem k_b53 : opBytes 53 = 4 := by decide +kernel
theorem k_b40 : opBytes 40 = 4 := by decide +kernel
theorem k_b63 : opBytes 63 = 0 := by decide +kernel
set_option maxHeartbeats 4000000 in
theorem known_val (w : World) (henv : Env w) : Calls Tryd.prog 7 #[] w fun e w' => e = .returned (.bool true) ∧ Below w.heap.size w w' := by
  have h2 := henv.lt
  have EN := Aside0.mk henv
  have HB := Aside0.mk (Below.refl w.heap.size w)
  clear henv
  go_enter Tryd.func7, Tryd.ntmps7
  go_wp2_with fail
  refine (Name_val _ _ EN.out).mono ?_
  rintro e w1 ⟨rfl, hb⟩
  have B1 := Aside0.mk (below_step HB.out hb)
  have E1 := Aside0.mk (EN.out.below B1.out h2)
  clear hb
  rw [k_name106]
  go_wp2_with fail
  refine (Find_val _ _ E1.out).mono ?_
  rintro e w2 ⟨rfl, hb⟩
  have B2 := Aside0.mk (below_step B1.out hb)
  have E2 := Aside0.mk (EN.out.below B2.out h2)
  clear hb
  rw [k_find]
  go_wp2_with fail
  refine (Shape_val _ _ E2.out).mono ?_
  rintro e w3 ⟨rfl, hb⟩
  have B3 := Aside0.mk (below_step B2.out hb)
  have E3 := Aside0.mk (EN.out.below B3.out h2)
  clear hb
  rw [k_shape17]
  go_wp2_with fail
  refine (Name_val _ _ E3.out).mono ?_
  rintro e w4 ⟨rfl, hb⟩
  have B4 := Aside0.mk (below_step B3.out hb)
  have E4 := Aside0.mk (EN.out.below B4.out h2)
  clear hb
  rw [k_name6]
  go_wp2_with fail
  refine (Shape_val _ _ E4.out).mono ?_
  rintro e w5 ⟨rfl, hb⟩
  have B5 := Aside0.mk (below_step B4.out hb)
  clear hb
  rw [k_shape6]
  go_wp2_with fail
  refine (Known_val _ _).mono ?_
  rintro e w6 ⟨rfl, hb⟩
  have B6 := Aside0.mk (below_step B5.out hb)
  clear hb
  rw [k_known139]
  go_wp2_with fail
  refine (Known_val _ _).mono ?_
  rintro e w7 ⟨rfl, hb⟩
  have B7 := Aside0.mk (below_step B6.out hb)
  clear hb
  rw [k_known253]
  go_wp2_with fail
  refine (Bytes_val _ _).mono ?_
  rintro e w8 ⟨rfl, hb⟩
  have B8 := Aside0.mk (below_step B7.out hb)
  clear hb
  rw [k_b53]
  go_wp2_with fail
  refine (Bytes_val _ _).mono ?_
  rintro e w9 ⟨rfl, hb⟩
  have B9 := Aside0.mk (below_step B8.out hb)
  clear hb
  rw [k_b40]
  go_wp2_with fail
  refine (Bytes_val _ _).mono ?_
  rintro e w10 ⟨rfl, hb⟩
  have B10 := Aside0.mk (below_step B9.out hb)
  clear hb
  rw [k_b63]
  go_wp2
  go_ret
  exact ⟨rfl, B10.out⟩
end Go.Proofs.YtahaknhgkmhniaaDoor.Ops
