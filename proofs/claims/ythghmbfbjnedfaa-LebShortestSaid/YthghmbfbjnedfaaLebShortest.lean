/- The law LebShortest: its walk. -/
import Derived.Test.YthghmbfbjnedfaaLebLawA
import Derived.Test.YthghmbfbjnedfaaLebPlainI
namespace Go.Proofs.Ythghmbfbjnedfaa.Leb
open Go.RowKit Go.Proofs.YthghmbfbjnedfaaW.PrintWords Go.Proofs.Ythghmbfbjnedfaa.Base Go.Proofs.Ythghmbfbjnedfaa.BitsA Go.Proofs.Ythghmbfbjnedfaa.Lb
set_option maxHeartbeats 1000000 in
set_option maxRecDepth 100000 in
theorem LebShortest_no (A0 : Option Addr) (c0 : Nat) (l : List Int) (bits more : Int) (w : World) (hl0 : l.length ≤ 9223372036854775807)
    (h : (200 : Int) < l.length ∨ bits < 1 ∨ 64 < bits ∨ more < bits ∨ 64 < more) :
    Calls Try.prog 6 #[.slice A0 l.length c0, .int .i64 bits, .int .i64 more] w fun e w' => e = .returned (.bool true) ∧ Below w.heap.size w w' := by
  have hs : (200 : Int) < l.length ∨ ((l.length : Int) ≤ 200 ∧ bits < 1) ∨ ((l.length : Int) ≤ 200 ∧ 1 ≤ bits ∧ 64 < bits) ∨ ((l.length : Int) ≤ 200 ∧ 1 ≤ bits ∧ bits ≤ 64 ∧ more < bits) ∨ ((l.length : Int) ≤ 200 ∧ 1 ≤ bits ∧ bits ≤ 64 ∧ bits ≤ more ∧ 64 < more) := by omega
  clear h
  go_enter Try.func6, Try.ntmps6
  go_wp2_with fail
  refine (known_calls _).mono ?_
  rintro e wk ⟨rfl, hbk⟩
  have BK := Aside0.mk hbk
  clear hbk
  rcases hs with h1 | ⟨h1, h2⟩ | ⟨h1, h2, h3⟩ | ⟨h1, h2, h3, h4⟩ | ⟨h1, h2, h3, h4, h5⟩
  all_goals
    go_wp2_with fail
    go_ret
    exact ⟨rfl, BK.out⟩
set_option maxHeartbeats 1000000 in
set_option maxRecDepth 100000 in
theorem LebShortest_yes (A0 : Option Addr) (c0 : Nat) (l : List Int) (bits more : Int) (w : World) (hr0 : ReadsInt w .u8 A0 l.length l) (hby : ∀ x ∈ l, 0 ≤ x ∧ x ≤ 255)
    (h1 : (l.length : Int) ≤ 200) (h2 : 1 ≤ bits) (h3 : bits ≤ 64) (h4 : bits ≤ more) (h5 : more ≤ 64) :
    Calls Try.prog 6 #[.slice A0 l.length c0, .int .i64 bits, .int .i64 more] w fun e w' => e = .returned (.bool true) ∧ Below w.heap.size w w' := by
  obtain ⟨b, rfl⟩ := Int.eq_ofNat_of_zero_le (show 0 ≤ bits by omega)
  obtain ⟨m, rfl⟩ := Int.eq_ofNat_of_zero_le (show 0 ≤ more by omega)
  obtain ⟨n, i, e, hu⟩ : ∃ n i e, readU l 0 b = (n, i, e) := ⟨_, _, _, rfl⟩
  obtain ⟨x, j, f, hv⟩ : ∃ n i e, readS l 0 b = (n, i, e) := ⟨_, _, _, rfl⟩
  have FU : e = 0 → readU l 0 m = (n, i, 0) ∧ ((U n).length : Int) ≤ i ∧ 0 ≤ n ∧ n ≤ 18446744073709551615 := fun he => by
    have := readU_short l b m (by omega) (by omega) (by omega) hby (by rw [hu]; exact he)
    rw [hu] at this
    rw [he] at this
    exact this
  have FS : f = 0 → readS l 0 m = (x, j, 0) ∧ ((S x).length : Int) ≤ j ∧ -9223372036854775808 ≤ x ∧ x ≤ 9223372036854775807 := fun he => by
    have := readS_short l b m (by omega) (by omega) (by omega) hby (by rw [hv]; exact he)
    rw [hv] at this
    rw [he] at this
    exact this
  have FE : f ≠ 0 → x = 0 ∧ j = 0 := fun he => by
    have h := readF_err l b true (fun h => he (by have : (readS l 0 b).2.2 = 0 := h
                                                  rw [hv] at this
                                                  exact this))
    have hx : x = wrap64 (readF l 0 b true).1 := by have : (readS l 0 b).1 = x := by rw [hv]
                                                    exact this.symm
    have hj : j = (readF l 0 b true).2.1 := by have : (readS l 0 b).2.1 = j := by rw [hv]
                                               exact this.symm
    rw [hx, hj, h.1, h.2]
    exact ⟨by unfold wrap64; omega, rfl⟩
  have HU := Aside0.mk hu
  have HV := Aside0.mk hv
  have GU := Aside0.mk FU
  have GS := Aside0.mk FS
  have GE := Aside0.mk FE
  have HR := Aside0.mk hr0
  have HB := Aside0.mk hby
  clear hu hv FU FS FE hr0 hby
  go_enter Try.func6, Try.ntmps6
  go_wp2_with fail
  refine (known_calls _).mono ?_
  rintro e wk ⟨rfl, hbk⟩
  have BK := Aside0.mk hbk
  clear hbk
  have hr1 := HR.out.below BK.out
  have HR1 := Aside0.mk hr1
  clear hr1 HR
  go_wp2_with fail
  refine (U_val _ _ _ _ _ _ _ _ _ _ rfl (by omega) HR1.out HB.out HU.out).mono ?_
  rintro e1 w1 ⟨rfl, rfl⟩
  by_cases he : e = 0
  · obtain ⟨g1, g2, g3, g4⟩ := GU.out he
    have G1 := Aside0.mk g1
    clear g1
    have hgt : decide (i < ((U n).length : Int)) = false := decide_eq_false (by omega)
    go_wp2_with fail
    refine (U_val _ _ _ _ _ _ _ _ _ _ rfl (by omega) HR1.out HB.out G1.out).mono ?_
    rintro e1 w1 ⟨rfl, rfl⟩
    go_wp2_with fail
    refine (PutU_calls _ _ g3 g4).mono ?_
    rintro e1 w1 ⟨v1, rfl, ho1, hb1⟩
    obtain ⟨A1, c1, rfl⟩ := Kd.R_slice ho1
    have B1 := Aside0.mk hb1
    have HR2 := Aside0.mk (HR1.out.below hb1)
    clear ho1 hb1
    go_wp2_with fail
    refine (S_val _ _ _ _ _ _ _ _ _ _ rfl (by omega) HR2.out HB.out HV.out).mono ?_
    rintro e1 w1 ⟨rfl, rfl⟩
    by_cases hf : f = 0
    · obtain ⟨s1, s2, s3, s4⟩ := GS.out hf
      have S1 := Aside0.mk s1
      clear s1
      have hle : decide (((S x).length : Int) ≤ j) = true := decide_eq_true s2
      go_wp2_with fail
      refine (S_val _ _ _ _ _ _ _ _ _ _ rfl (by omega) HR2.out HB.out S1.out).mono ?_
      rintro e1 w1 ⟨rfl, rfl⟩
      go_wp2_with fail
      refine (PutS_calls _ _ s3 s4).mono ?_
      rintro e1 w1 ⟨v1, rfl, ho1, hb1⟩
      obtain ⟨A1, c1, rfl⟩ := Kd.R_slice ho1
      have B2 := Aside0.mk hb1
      clear ho1 hb1
      go_wp2
      go_ret
      exact ⟨rfl, below_step (below_step BK.out B1.out) B2.out⟩
    · obtain ⟨z1, z2⟩ := GE.out hf
      go_wp2
      go_ret
      exact ⟨rfl, below_step BK.out B1.out⟩
  · go_wp2_with fail
    refine (S_val _ _ _ _ _ _ _ _ _ _ rfl (by omega) HR1.out HB.out HV.out).mono ?_
    rintro e1 w1 ⟨rfl, rfl⟩
    by_cases hf : f = 0
    · obtain ⟨s1, s2, s3, s4⟩ := GS.out hf
      have S1 := Aside0.mk s1
      clear s1
      have hle : decide (((S x).length : Int) ≤ j) = true := decide_eq_true s2
      go_wp2_with fail
      refine (S_val _ _ _ _ _ _ _ _ _ _ rfl (by omega) HR1.out HB.out S1.out).mono ?_
      rintro e1 w1 ⟨rfl, rfl⟩
      go_wp2_with fail
      refine (PutS_calls _ _ s3 s4).mono ?_
      rintro e1 w1 ⟨v1, rfl, ho1, hb1⟩
      obtain ⟨A1, c1, rfl⟩ := Kd.R_slice ho1
      have B2 := Aside0.mk hb1
      clear ho1 hb1
      go_wp2
      go_ret
      exact ⟨rfl, below_step BK.out B2.out⟩
    · obtain ⟨z1, z2⟩ := GE.out hf
      go_wp2
      go_ret
      exact ⟨rfl, BK.out⟩
theorem LebShortest_law (A0 : Option Addr) (c0 : Nat) (l : List Int) (bits more : Int) (w : World) (hr : ReadsInt w .u8 A0 l.length l) (_hc : l.length ≤ c0) (hy : l.length * 1 ≤ 140737488351232) (hw : ∀ x ∈ l, (Lit.int .u8 x).wf = true)
    (_hb : (Lit.int .i64 bits).wf = true) (_hm : (Lit.int .i64 more).wf = true) :
    Calls Try.prog 6 #[.slice A0 l.length c0, .int .i64 bits, .int .i64 more] w fun e w' => e = .returned (.bool true) ∧ Below w.heap.size w w' := by
  by_cases h : (l.length : Int) ≤ 200 ∧ 1 ≤ bits ∧ bits ≤ 64 ∧ bits ≤ more ∧ more ≤ 64
  · exact LebShortest_yes A0 c0 l bits more w hr (fun x hx => wf_u8 (hw x hx)) h.1 h.2.1 h.2.2.1 h.2.2.2.1 h.2.2.2.2
  · exact LebShortest_no A0 c0 l bits more w (by omega) (by omega)
end Go.Proofs.Ythghmbfbjnedfaa.Leb
