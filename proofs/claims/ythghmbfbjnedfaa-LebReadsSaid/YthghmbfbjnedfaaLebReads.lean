/- The law LebReads: its walk. -/
import Derived.Test.YthghmbfbjnedfaaLebRefReadS
import Derived.Deep.CutBlock
namespace Go.Proofs.Ythghmbfbjnedfaa.Leb
open Go.RowKit Go.Proofs.YthghmbfbjnedfaaW.PrintWords Go.Proofs.Ythghmbfbjnedfaa.Base Go.Proofs.Ythghmbfbjnedfaa.BitsA Go.Proofs.Ythghmbfbjnedfaa.Lb
set_option maxHeartbeats 1000000 in
set_option maxRecDepth 100000 in
theorem LebReads_no (A0 : Option Addr) (c0 : Nat) (l : List Int) (at_ bits : Int) (w : World) (h : (500 : Int) < l.length) :
    Calls Try.prog 3 #[.slice A0 l.length c0, .int .i64 at_, .int .i64 bits] w fun e w' => e = .returned (.bool true) ∧ Below w.heap.size w w' := by
  go_enter Try.func3, Try.ntmps3
  go_wp2_with fail
  refine (known_calls _).mono ?_
  rintro e wk ⟨rfl, hbk⟩
  have BK := Aside0.mk hbk
  clear hbk
  go_wp2_with fail
  go_ret
  exact ⟨rfl, BK.out⟩
set_option maxHeartbeats 2000000 in
set_option maxRecDepth 100000 in
theorem LebReads_yes (A0 : Option Addr) (c0 : Nat) (l : List Int) (at_ bits : Int) (w : World) (hc : l.length ≤ c0) (hr : ReadsInt w .u8 A0 l.length l) (hby : ∀ x ∈ l, 0 ≤ x ∧ x ≤ 255) (h : (l.length : Int) ≤ 500) :
    Calls Try.prog 3 #[.slice A0 l.length c0, .int .i64 at_, .int .i64 bits] w fun e w' => e = .returned (.bool true) ∧ Below w.heap.size w w' := by
  obtain ⟨n, i, e, hu⟩ : ∃ n i e, readU l at_ bits = (n, i, e) := ⟨_, _, _, rfl⟩
  obtain ⟨x, p, g, hs⟩ : ∃ n i e, readS l at_ bits = (n, i, e) := ⟨_, _, _, rfl⟩
  obtain ⟨ku, hku⟩ := refU_read l hby (by omega) at_ bits
  obtain ⟨ks, hks⟩ := refS_read l hby (by omega) at_ bits
  rw [hu] at hku
  rw [hs] at hks
  have HU := Aside0.mk hu
  have HS := Aside0.mk hs
  have KU := Aside0.mk hku
  have KS := Aside0.mk hks
  have HR := Aside0.mk hr
  have HB := Aside0.mk hby
  have HC := Aside0.mk hc
  clear hu hs hku hks hr hby hc
  go_enter Try.func3, Try.ntmps3
  go_wp2_with fail
  refine (known_calls _).mono ?_
  rintro e wk ⟨rfl, hbk⟩
  have BK := Aside0.mk hbk
  clear hbk
  have HR1 := Aside0.mk (HR.out.below BK.out)
  clear HR
  go_upto_region 6 with (first | ((with_reducible refine Go.Proofs.Ythghmbfbjnedfaa.Base.gate_builtin (b := .append) (xs := #[.tmp 25, .tmp 26]) rfl ?_); at_builtin; refine print_append_row (w0 := wk) wk.heap.size rfl (.tmp 25) (.tmp 26) 22 5 .u8 1 rfl Try.underlying22 infoB (by decide) _ ([]) (l) _ _ _ rfl rfl (own_empty wk) (HR1.out.below (below_alloc (Below.refl _ _) _)) (below_alloc (Below.refl _ _) _) (below_size (below_alloc (Below.refl _ _) _)) (by simp; omega) ?_; intro v4 w4 ho hb hg hat; simp only [List.nil_append] at ho; have O4 := Aside0.mk ho; have B4 := Aside0.mk hb; clear ho hb hg hat) | fail)
  obtain ⟨A4, k4, rfl, hr4⟩ := own_reads O4.out
  have R4 := Aside0.mk hr4
  have R0 := Aside0.mk (HR1.out.below B4.out)
  have BA := Aside0.mk (below_step BK.out B4.out)
  clear hr4 O4 HR1
  go_wp2_with fail
  refine (U_val _ _ _ _ _ _ _ _ _ _ rfl (by omega) R4.out HB.out HU.out).mono ?_
  rintro e1 w5 ⟨rfl, rfl⟩
  go_wp2_with fail
  refine (Go.Proofs.Ythghmbfbjnedfaa.PLebReads.geoderef01_U.calls ku _ _ l at_ bits n i e _ (Kd.C_of_reads (d := (0 : Int)) (h1 := fun _ => rfl) R0.out) HC.out KU.out).mono ?_
  rintro e1 w5 ⟨rfl, hb5⟩
  have B5 := Aside0.mk hb5
  have R5 := Aside0.mk (R4.out.below hb5)
  have Q5 := Aside0.mk (R0.out.below hb5)
  clear hb5
  go_wp2_with fail
  refine (S_val _ _ _ _ _ _ _ _ _ _ rfl (by omega) R5.out HB.out HS.out).mono ?_
  rintro e1 w6 ⟨rfl, rfl⟩
  go_wp2_with fail
  refine (Go.Proofs.Ythghmbfbjnedfaa.PLebReads.geoderef01_S.calls ks _ _ l at_ bits x p g _ (Kd.C_of_reads (d := (0 : Int)) (h1 := fun _ => rfl) Q5.out) HC.out KS.out).mono ?_
  rintro e1 w6 ⟨rfl, hb6⟩
  have B6 := Aside0.mk hb6
  have s1 := fun c => string_of_reads (c := c) (P := Try.prog) Try.underlying22 Try.underlying5 Try.underlying9 (R5.out.below hb6)
  have s2 := fun c => string_of_reads (c := c) (P := Try.prog) Try.underlying22 Try.underlying5 Try.underlying9 (Q5.out.below hb6)
  clear hb6
  go_wp2
  go_ret
  exact ⟨rfl, below_step (below_step BA.out B5.out) B6.out⟩
theorem LebReads_law (A0 : Option Addr) (c0 : Nat) (l : List Int) (at_ bits : Int) (w : World) (hr : ReadsInt w .u8 A0 l.length l) (hc : l.length ≤ c0) (hy : l.length * 1 ≤ 140737488351232) (hw : ∀ x ∈ l, (Lit.int .u8 x).wf = true)
    (_ha : (Lit.int .i64 at_).wf = true) (_hb : (Lit.int .i64 bits).wf = true) :
    Calls Try.prog 3 #[.slice A0 l.length c0, .int .i64 at_, .int .i64 bits] w fun e w' => e = .returned (.bool true) ∧ Below w.heap.size w w' := by
  by_cases h : (l.length : Int) ≤ 500
  · exact LebReads_yes A0 c0 l at_ bits w hc hr (fun x hx => wf_u8 (hw x hx)) h
  · exact LebReads_no A0 c0 l at_ bits w (by omega)
end Go.Proofs.Ythghmbfbjnedfaa.Leb
