/- The law NameReads: its walk. -/
import Derived.Test.YthghmbfbjnedfaaNameJoins
import Derived.Test.YthghmbfbjnedfaaNameRefRead
namespace Go.Proofs.Ythghmbfbjnedfaa.Nm
open Go.RowKit Go.Proofs.YthghmbfbjnedfaaW.PrintWords Go.Proofs.Ythghmbfbjnedfaa.BitsA Go.Proofs.Ythghmbfbjnedfaa.Lb Go.Proofs.Ythghmbfbjnedfaa.Leb
set_option maxHeartbeats 2000000 in
set_option maxRecDepth 100000 in
theorem NameReads_law (s : ByteArray) (Aa : Option Addr) (ca : Nat) (la : List Int) (at_ : Int) (w : World) (_hs : s.size ≤ 140737488351232)
    (hra : ReadsInt w .u8 Aa la.length la) (hca : la.length ≤ ca) (_hya : la.length * 1 ≤ 140737488351232) (hwa : ∀ x ∈ la, (Lit.int .u8 x).wf = true) (_ha : (Lit.int .i64 at_).wf = true) :
    Calls Try.prog 10 #[.string s, .slice Aa la.length ca, .int .i64 at_] w fun e w' => e = .returned (.bool true) ∧ Below w.heap.size w w' := by
  have YA := Aside0.mk (show ∀ x ∈ la, 0 ≤ x ∧ x ≤ 255 from fun x hx => wf_u8 (hwa x hx))
  have RA0 := Aside0.mk hra
  have CA := Aside0.mk hca
  clear hra hca hwa _ha _hs _hya
  by_cases h1 : (3000 : Int) < s.size
  · go_enter Try.func10, Try.ntmps10
    go_wp2_with fail
    refine (known_calls _).mono ?_
    rintro e w1 ⟨rfl, hb⟩
    have B1 := Aside0.mk hb
    clear hb
    go_wp2
    go_ret
    exact ⟨rfl, B1.out⟩
  by_cases h2 : (3000 : Int) < la.length
  · go_enter Try.func10, Try.ntmps10
    go_wp2_with fail
    refine (known_calls _).mono ?_
    rintro e w1 ⟨rfl, hb⟩
    have B1 := Aside0.mk hb
    clear hb
    go_wp2
    go_ret
    exact ⟨rfl, B1.out⟩
  have z1 : s.size ≤ 3000 := by omega
  have z2 : la.length ≤ 3000 := by omega
  clear h1 h2
  obtain ⟨xs, k, g, hx⟩ : ∃ xs k g, rdN la at_ = (xs, k, g) := ⟨_, _, _, rfl⟩
  have HX := Aside0.mk hx
  obtain ⟨n, hn⟩ : ∃ n, CI (nb s) = n := ⟨_, rfl⟩
  obtain ⟨b, hb⟩ : ∃ b, wl (nb s) = b := ⟨_, rfl⟩
  have hbn : decide (0 ≤ n) = b := by rw [← hb, ← hn]; rfl
  have HN := Aside0.mk hn
  have HB := Aside0.mk hb
  have hge : -1 ≤ n := by rw [← hn]; exact CI_ge _
  clear hx hn hb
  cases b
  all_goals
    go_enter Try.func10, Try.ntmps10
  · have hn2 : ¬ 0 ≤ n := of_decide_eq_false hbn
    clear hbn
    obtain rfl : n = -1 := by omega
    clear hn2 hge
    go_wp2_with fail
    refine (known_calls _).mono ?_
    rintro e w1 ⟨rfl, hb⟩
    have B1 := Aside0.mk hb
    clear hb
    have RA := Aside0.mk (RA0.out.below B1.out)
    go_wp2_with fail
    refine (Read_val Aa ca _ la at_ _ xs k g rfl (by omega) CA.out RA.out YA.out HX.out).mono ?_
    rintro e w2 ⟨rfl, hb⟩
    have B2 := Aside0.mk (below_step B1.out hb)
    have RA2 := Aside0.mk (RA.out.below hb)
    clear hb
    obtain ⟨X, hX⟩ : ∃ X, strOfNums xs = X := ⟨_, rfl⟩
    rw [hX]
    have HXX := Aside0.mk hX
    clear hX
    go_wp2_with fail
    refine (refRead_val Aa ca _ la at_ _ xs k g rfl (by omega) CA.out RA2.out YA.out HX.out).mono ?_
    rintro e w3 ⟨rfl, hb⟩
    have B3 := Aside0.mk (below_step B2.out hb)
    clear hb
    rw [HXX.out]
    go_wp2_with fail
    refine (Well_wl s false _ (by omega) HB.out).mono ?_
    rintro e w4 ⟨rfl, hb⟩
    have B4 := Aside0.mk (below_step B3.out hb)
    clear hb
    go_wp2_with fail
    refine (refCount_val s (-1) _ (by omega) HN.out).mono ?_
    rintro e w5 ⟨rfl, hb⟩
    have B5 := Aside0.mk (below_step B4.out hb)
    clear hb
    go_wp2_with fail
    refine (Count_val s (-1) _ (by omega) HN.out).mono ?_
    rintro e w6 ⟨rfl, hb⟩
    have B6 := Aside0.mk (below_step B5.out hb)
    clear hb
    go_wp2_with fail
    refine (refCount_val s (-1) _ (by omega) HN.out).mono ?_
    rintro e w7 ⟨rfl, hb⟩
    have B7 := Aside0.mk (below_step B6.out hb)
    clear hb
    go_wp2
    go_ret
    exact ⟨rfl, B7.out⟩
  · have hn2 : 0 ≤ n := of_decide_eq_true hbn
    clear hbn
    go_wp2_with fail
    refine (known_calls _).mono ?_
    rintro e w1 ⟨rfl, hb⟩
    have B1 := Aside0.mk hb
    clear hb
    have RA := Aside0.mk (RA0.out.below B1.out)
    go_wp2_with fail
    refine (Read_val Aa ca _ la at_ _ xs k g rfl (by omega) CA.out RA.out YA.out HX.out).mono ?_
    rintro e w2 ⟨rfl, hb⟩
    have B2 := Aside0.mk (below_step B1.out hb)
    have RA2 := Aside0.mk (RA.out.below hb)
    clear hb
    obtain ⟨X, hX⟩ : ∃ X, strOfNums xs = X := ⟨_, rfl⟩
    rw [hX]
    have HXX := Aside0.mk hX
    clear hX
    go_wp2_with fail
    refine (refRead_val Aa ca _ la at_ _ xs k g rfl (by omega) CA.out RA2.out YA.out HX.out).mono ?_
    rintro e w3 ⟨rfl, hb⟩
    have B3 := Aside0.mk (below_step B2.out hb)
    clear hb
    rw [HXX.out]
    go_wp2_with fail
    refine (Well_wl s true _ (by omega) HB.out).mono ?_
    rintro e w4 ⟨rfl, hb⟩
    have B4 := Aside0.mk (below_step B3.out hb)
    clear hb
    go_wp2_with fail
    refine (refCount_val s n _ (by omega) HN.out).mono ?_
    rintro e w5 ⟨rfl, hb⟩
    have B5 := Aside0.mk (below_step B4.out hb)
    clear hb
    go_wp2_with fail
    refine (Count_val s n _ (by omega) HN.out).mono ?_
    rintro e w6 ⟨rfl, hb⟩
    have B6 := Aside0.mk (below_step B5.out hb)
    clear hb
    go_wp2_with fail
    refine (refCount_val s n _ (by omega) HN.out).mono ?_
    rintro e w7 ⟨rfl, hb⟩
    have B7 := Aside0.mk (below_step B6.out hb)
    clear hb
    go_wp2
    go_ret
    exact ⟨rfl, B7.out⟩
end Go.Proofs.Ythghmbfbjnedfaa.Nm
