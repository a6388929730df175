/- The law NameJoins: its walk. -/
import Derived.Test.YthghmbfbjnedfaaNameKnown
import Derived.Test.YthghmbfbjnedfaaNameLaw
namespace Go.Proofs.Ythghmbfbjnedfaa.Nm
open Go.RowKit Go.Proofs.YthghmbfbjnedfaaW.PrintWords Go.Proofs.Ythghmbfbjnedfaa.BitsA Go.Proofs.Ythghmbfbjnedfaa.Lb Go.Proofs.Ythghmbfbjnedfaa.Leb
theorem nb_append (s t : ByteArray) : nb (s ++ t) = nb s ++ nb t := by
  unfold nb
  rw [ByteArray.data_append, Array.toList_append, List.map_append]
theorem Well_wl (s : ByteArray) (r : Bool) (w : World) (hs : s.size ≤ 1000000) (h : wl (nb s) = r) : Calls Try.prog 32 #[.string s] w fun e w' => e = .returned (.bool r) ∧ Below w.heap.size w w' := Well_val s r w hs h
set_option maxHeartbeats 2000000 in
set_option maxRecDepth 100000 in
theorem NameJoins_law (s t : ByteArray) (w : World) (_hs : s.size ≤ 140737488351232) (_ht : t.size ≤ 140737488351232) :
    Calls Try.prog 11 #[.string s, .string t] w fun e w' => e = .returned (.bool true) ∧ Below w.heap.size w w' := by
  by_cases h1 : (2000 : Int) < s.size
  · go_enter Try.func11, Try.ntmps11
    go_wp2_with fail
    refine (known_calls _).mono ?_
    rintro e w1 ⟨rfl, hb⟩
    have B1 := Aside0.mk hb
    clear hb
    go_wp2
    go_ret
    exact ⟨rfl, B1.out⟩
  by_cases h2 : (2000 : Int) < t.size
  · go_enter Try.func11, Try.ntmps11
    go_wp2_with fail
    refine (known_calls _).mono ?_
    rintro e w1 ⟨rfl, hb⟩
    have B1 := Aside0.mk hb
    clear hb
    go_wp2
    go_ret
    exact ⟨rfl, B1.out⟩
  have z1 : s.size ≤ 2000 := by omega
  have z2 : t.size ≤ 2000 := by omega
  have z3 : (s ++ t).size ≤ 4000 := by rw [ByteArray.size_append]; omega
  obtain ⟨u, hu⟩ : ∃ u, s ++ t = u := ⟨_, rfl⟩
  rw [hu] at z3
  have hn : nb u = nb s ++ nb t := by rw [← hu]; exact nb_append s t
  obtain ⟨a, ha⟩ : ∃ a, wl (nb s) = a := ⟨_, rfl⟩
  obtain ⟨b, hb⟩ : ∃ b, wl (nb t) = b := ⟨_, rfl⟩
  obtain ⟨x, hx⟩ : ∃ x, CI (nb s) = x := ⟨_, rfl⟩
  obtain ⟨y, hy⟩ : ∃ y, CI (nb t) = y := ⟨_, rfl⟩
  have l1 : a = true → wl (nb u) = b := fun h => by rw [hn, wl_append _ (ha.trans h), hb]
  have l2 : b = true → wl (nb u) = a := fun h => by rw [hn, wl_append' (hb.trans h), ha]
  have l3 : a = true → b = true → CI (nb u) = x + y := fun h1 h2 => by rw [hn, CI_append (ha.trans h1) (hb.trans h2), hx, hy]
  have HA := Aside0.mk ha
  have HB := Aside0.mk hb
  have HX := Aside0.mk hx
  have HY := Aside0.mk hy
  have L1 := Aside0.mk l1
  have L2 := Aside0.mk l2
  have L3 := Aside0.mk l3
  have xb : -1 ≤ x ∧ x ≤ 2000 := by
    rw [← hx]
    refine ⟨CI_ge _, Int.le_trans (CI_le _) ?_⟩
    rw [nb_length]
    omega
  have yb : -1 ≤ y ∧ y ≤ 2000 := by
    rw [← hy]
    refine ⟨CI_ge _, Int.le_trans (CI_le _) ?_⟩
    rw [nb_length]
    omega
  obtain ⟨x0, x1⟩ := xb
  obtain ⟨y0, y1⟩ := yb
  clear ha hb hx hy l1 l2 l3 hn h1 h2
  cases a <;> cases b
  all_goals
    go_enter Try.func11, Try.ntmps11
  · go_wp2_with fail
    refine (known_calls _).mono ?_
    rintro e w1 ⟨rfl, hb⟩
    have B1 := Aside0.mk hb
    clear hb
    go_wp2_with fail
    refine (Well_wl s false _ (by omega) HA.out).mono ?_
    rintro e w2 ⟨rfl, hb⟩
    have B2 := Aside0.mk (below_step B1.out hb)
    clear hb
    go_wp2_with fail
    refine (Well_wl t false _ (by omega) HB.out).mono ?_
    rintro e w3 ⟨rfl, hb⟩
    have B3 := Aside0.mk (below_step B2.out hb)
    clear hb
    go_wp2
    go_ret
    exact ⟨rfl, B3.out⟩
  · go_wp2_with fail
    refine (known_calls _).mono ?_
    rintro e w1 ⟨rfl, hb⟩
    have B1 := Aside0.mk hb
    clear hb
    go_wp2_with fail
    refine (Well_wl s false _ (by omega) HA.out).mono ?_
    rintro e w2 ⟨rfl, hb⟩
    have B2 := Aside0.mk (below_step B1.out hb)
    clear hb
    go_wp2_with fail
    refine (Well_wl t true _ (by omega) HB.out).mono ?_
    rintro e w3 ⟨rfl, hb⟩
    have B3 := Aside0.mk (below_step B2.out hb)
    clear hb
    go_wp2_with fail
    refine (Well_wl s false _ (by omega) HA.out).mono ?_
    rintro e w4 ⟨rfl, hb⟩
    have B4 := Aside0.mk (below_step B3.out hb)
    clear hb
    go_wp2_with fail
    refine (Well_wl u false _ (by omega) (L2.out (by simp))).mono ?_
    rintro e w5 ⟨rfl, hb⟩
    have B5 := Aside0.mk (below_step B4.out hb)
    clear hb
    go_wp2
    go_ret
    exact ⟨rfl, B5.out⟩
  · go_wp2_with fail
    refine (known_calls _).mono ?_
    rintro e w1 ⟨rfl, hb⟩
    have B1 := Aside0.mk hb
    clear hb
    go_wp2_with fail
    refine (Well_wl s true _ (by omega) HA.out).mono ?_
    rintro e w2 ⟨rfl, hb⟩
    have B2 := Aside0.mk (below_step B1.out hb)
    clear hb
    go_wp2_with fail
    refine (Well_wl s true _ (by omega) HA.out).mono ?_
    rintro e w3 ⟨rfl, hb⟩
    have B3 := Aside0.mk (below_step B2.out hb)
    clear hb
    go_wp2_with fail
    refine (Well_wl t false _ (by omega) HB.out).mono ?_
    rintro e w4 ⟨rfl, hb⟩
    have B4 := Aside0.mk (below_step B3.out hb)
    clear hb
    go_wp2_with fail
    refine (Well_wl u false _ (by omega) (L1.out (by simp))).mono ?_
    rintro e w5 ⟨rfl, hb⟩
    have B5 := Aside0.mk (below_step B4.out hb)
    clear hb
    go_wp2
    go_ret
    exact ⟨rfl, B5.out⟩
  · go_wp2_with fail
    refine (known_calls _).mono ?_
    rintro e w1 ⟨rfl, hb⟩
    have B1 := Aside0.mk hb
    clear hb
    go_wp2_with fail
    refine (Well_wl s true _ (by omega) HA.out).mono ?_
    rintro e w2 ⟨rfl, hb⟩
    have B2 := Aside0.mk (below_step B1.out hb)
    clear hb
    go_wp2_with fail
    refine (Well_wl s true _ (by omega) HA.out).mono ?_
    rintro e w3 ⟨rfl, hb⟩
    have B3 := Aside0.mk (below_step B2.out hb)
    clear hb
    go_wp2_with fail
    refine (Well_wl t true _ (by omega) HB.out).mono ?_
    rintro e w4 ⟨rfl, hb⟩
    have B4 := Aside0.mk (below_step B3.out hb)
    clear hb
    go_wp2_with fail
    refine (Well_wl u true _ (by omega) (L1.out (by simp))).mono ?_
    rintro e w5 ⟨rfl, hb⟩
    have B5 := Aside0.mk (below_step B4.out hb)
    clear hb
    go_wp2_with fail
    refine (Count_val u _ _ (by omega) (L3.out (by simp) (by simp))).mono ?_
    rintro e w6 ⟨rfl, hb⟩
    have B6 := Aside0.mk (below_step B5.out hb)
    clear hb
    go_wp2_with fail
    refine (Count_val s _ _ (by omega) HX.out).mono ?_
    rintro e w7 ⟨rfl, hb⟩
    have B7 := Aside0.mk (below_step B6.out hb)
    clear hb
    go_wp2_with fail
    refine (Count_val t _ _ (by omega) HY.out).mono ?_
    rintro e w8 ⟨rfl, hb⟩
    have B8 := Aside0.mk (below_step B7.out hb)
    clear hb
    go_wp2
    go_ret
    exact ⟨rfl, B8.out⟩
end Go.Proofs.Ythghmbfbjnedfaa.Nm
