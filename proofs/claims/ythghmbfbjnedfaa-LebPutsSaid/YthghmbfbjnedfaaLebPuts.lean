/- The law LebPuts: its walk. -/
import Derived.Test.YthghmbfbjnedfaaLebRefPut
import Derived.Deep.RegionWith
import Derived.Outline
namespace Go.Proofs.Ythghmbfbjnedfaa.Leb
open Go.RowKit Go.Proofs.YthghmbfbjnedfaaW.PrintWords Go.Proofs.Ythghmbfbjnedfaa.Base Go.Proofs.Ythghmbfbjnedfaa.BitsA Go.Proofs.Ythghmbfbjnedfaa.Lb
set_option maxHeartbeats 40000000 in
set_option maxRecDepth 100000 in
theorem LebPuts_walk (n m : Int) (w : World) (n0 : 0 ≤ n) (n1 : n ≤ 18446744073709551615) (m0 : -9223372036854775808 ≤ m) (m1 : m ≤ 9223372036854775807) :
    Calls Try.prog 4 #[.int .u64 n, .int .i64 m] w fun e w' => e = .returned (.bool true) ∧ Below w.heap.size w w' := by
  have B := Aside0.mk (below_drew (Below.refl w.heap.size w))
  go_enter Try.func4, Try.ntmps4
  go_wp2_with fail
  go_region_with (first | (go_at_call 24; refine (PutU_calls _ _ n0 n1).mono ?_; rintro e w1 ⟨v1, rfl, ho1, hb1⟩; have P1 := Aside0.mk ho1; have BB := Aside0.mk (below_step B.out hb1); have c1 := own_string (P := Try.prog) Try.underlying22 Try.underlying5 Try.underlying9 (Kd.own_of_R ho1); clear B; have B := BB; clear BB ho1 hb1) | (have tok2 := P1; go_at_call 25; refine (refPutU_calls _ _ n0 n1).mono ?_; rintro e w2 ⟨v2, rfl, ho2, hb2⟩; have BB := Aside0.mk (below_step B.out hb2); have c2 := own_string (P := Try.prog) Try.underlying22 Try.underlying5 Try.underlying9 (Kd.own_of_R ho2); have c1b := own_string (P := Try.prog) Try.underlying22 Try.underlying5 Try.underlying9 (Kd.own_of_R (Kd.R_below P1.out hb2)); clear B; have B := BB; clear BB ho2 hb2; clear P1) | (go_at_call 26; refine (PutS_calls _ _ m0 m1).mono ?_; rintro e w3 ⟨v3, rfl, ho3, hb3⟩; have P3 := Aside0.mk ho3; have BB := Aside0.mk (below_step B.out hb3); have c3 := own_string (P := Try.prog) Try.underlying22 Try.underlying5 Try.underlying9 (Kd.own_of_R ho3); clear B; have B := BB; clear BB ho3 hb3) | (go_at_call 27; refine (refPutS_calls _ _ m0 m1).mono ?_; rintro e w4 ⟨v4, rfl, ho4, hb4⟩; have BB := Aside0.mk (below_step B.out hb4); have c4 := own_string (P := Try.prog) Try.underlying22 Try.underlying5 Try.underlying9 (Kd.own_of_R ho4); have c3b := own_string (P := Try.prog) Try.underlying22 Try.underlying5 Try.underlying9 (Kd.own_of_R (Kd.R_below P3.out hb4)); clear B; have B := BB; clear BB ho4 hb4) | (go_at_call 28; refine (Len_calls _ _ n0 n1).mono ?_; rintro e w5 ⟨rfl, hb5⟩; have BB := Aside0.mk (below_step B.out hb5); clear B; have B := BB; clear BB hb5) | (go_at_call 25; refine (refPutU_calls _ _ n0 n1).mono ?_; rintro e w6 ⟨v6, rfl, ho6, hb6⟩; obtain ⟨A6, k6, rfl⟩ := Kd.R_slice ho6; have BB := Aside0.mk (below_step B.out hb6); clear B; have B := BB; clear BB ho6 hb6) | (go_at_call 19; refine (known_calls _).mono ?_; rintro e w7 ⟨rfl, hb7⟩; have BB := Aside0.mk (below_step B.out hb7); clear B; have B := BB; clear BB hb7))
  all_goals
    go_wp2
    go_ret
    exact ⟨rfl, B.out⟩
theorem LebPuts_law (n m : Int) (w : World) (hn : (Lit.int .u64 n).wf = true) (hm : (Lit.int .i64 m).wf = true) :
    Calls Try.prog 4 #[.int .u64 n, .int .i64 m] w fun e w' => e = .returned (.bool true) ∧ Below w.heap.size w w' :=
  LebPuts_walk n m w (wf_u64 hn).1 (wf_u64 hn).2 (wf_i64' hm).1 (wf_i64' hm).2
end Go.Proofs.Ythghmbfbjnedfaa.Leb
