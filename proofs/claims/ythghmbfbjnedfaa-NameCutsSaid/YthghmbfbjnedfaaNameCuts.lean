/- The law NameCuts: its walk. -/
import Derived.Test.YthghmbfbjnedfaaNameJoins
namespace Go.Proofs.Ythghmbfbjnedfaa.Nm
open Go.RowKit Go.Proofs.YthghmbfbjnedfaaW.PrintWords Go.Proofs.Ythghmbfbjnedfaa.BitsA Go.Proofs.Ythghmbfbjnedfaa.Lb Go.Proofs.Ythghmbfbjnedfaa.Leb
theorem nb_extract (s : ByteArray) (i j : Nat) : nb (s.extract i j) = ((nb s).take j).drop i := by
  unfold nb
  rw [ByteArray.data_extract, Array.toList_extract, List.extract_eq_take_drop, List.map_take, List.map_drop, List.drop_take]
theorem size_extract (s : ByteArray) (i j : Nat) : (s.extract i j).size ≤ s.size := by
  rw [← nb_length, ← nb_length, nb_extract, List.length_drop, List.length_take]
  omega
set_option maxHeartbeats 2000000 in
set_option maxRecDepth 100000 in
theorem NameCuts_law (a b : ByteArray) (at_ : Int) (w : World) (_hs : a.size ≤ 140737488351232) (_ht : b.size ≤ 140737488351232) (_ha : (Lit.int .i64 at_).wf = true) :
    Calls Try.prog 12 #[.string a, .string b, .int .i64 at_] w fun e w' => e = .returned (.bool true) ∧ Below w.heap.size w w' := by
  clear _ha
  by_cases h1 : (200 : Int) < a.size
  · go_enter Try.func12, Try.ntmps12
    go_wp2_with fail
    refine (known_calls _).mono ?_
    rintro e w1 ⟨rfl, hb⟩
    have B1 := Aside0.mk hb
    clear hb
    go_wp2
    go_ret
    exact ⟨rfl, B1.out⟩
  by_cases h2 : (200 : Int) < b.size
  · go_enter Try.func12, Try.ntmps12
    go_wp2_with fail
    refine (known_calls _).mono ?_
    rintro e w1 ⟨rfl, hb⟩
    have B1 := Aside0.mk hb
    clear hb
    go_wp2
    go_ret
    exact ⟨rfl, B1.out⟩
  by_cases h3 : at_ < 0
  · go_enter Try.func12, Try.ntmps12
    go_wp2_with fail
    refine (known_calls _).mono ?_
    rintro e w1 ⟨rfl, hb⟩
    have B1 := Aside0.mk hb
    clear hb
    go_wp2
    go_ret
    exact ⟨rfl, B1.out⟩
  by_cases h4 : (a.size : Int) < at_
  · go_enter Try.func12, Try.ntmps12
    go_wp2_with fail
    refine (known_calls _).mono ?_
    rintro e w1 ⟨rfl, hb⟩
    have B1 := Aside0.mk hb
    clear hb
    go_wp2
    go_ret
    exact ⟨rfl, B1.out⟩
  have z1 : a.size ≤ 200 := by omega
  have z2 : b.size ≤ 200 := by omega
  cases hw : wl (nb a)
  · have HW := Aside0.mk hw
    clear hw
    go_enter Try.func12, Try.ntmps12
    go_wp2_with fail
    refine (known_calls _).mono ?_
    rintro e w1 ⟨rfl, hb⟩
    have B1 := Aside0.mk hb
    clear hb
    go_wp2_with fail
    refine (Well_wl a false _ (by omega) HW.out).mono ?_
    rintro e w2 ⟨rfl, hb⟩
    have B2 := Aside0.mk (below_step B1.out hb)
    clear hb
    go_wp2
    go_ret
    exact ⟨rfl, B2.out⟩
  obtain ⟨k, rfl⟩ : ∃ k : Nat, at_ = k := ⟨at_.toNat, by omega⟩
  obtain ⟨r, hr⟩ : ∃ r, wl (nb b) = r := ⟨_, rfl⟩
  have r1 : wl (nb (a ++ b)) = r := by rw [nb_append, wl_append _ hw, hr]
  have r2 : wl (nb (b ++ a)) = r := by rw [nb_append, wl_append' hw, hr]
  have R1 := Aside0.mk r1
  have R2 := Aside0.mk r2
  have RB := Aside0.mk hr
  have s1 : (a ++ b).size ≤ 1000000 := by rw [ByteArray.size_append]; omega
  have s2 : (b ++ a).size ≤ 1000000 := by rw [ByteArray.size_append]; omega
  have s3 : (a.extract 0 k).size ≤ 1000000 := Nat.le_trans (size_extract _ _ _) (by omega)
  have s4 : (a.extract k a.size).size ≤ 1000000 := Nat.le_trans (size_extract _ _ _) (by omega)
  have S1 := Aside0.mk s1
  have S2 := Aside0.mk s2
  have S3 := Aside0.mk s3
  have S4 := Aside0.mk s4
  have HW := Aside0.mk hw
  have kl : k ≤ a.size := by omega
  clear r1 r2 hr s1 s2 s3 s4 h1 h2
  by_cases hk : k = a.size
  · have p1 : wl (nb (a.extract 0 k)) = true := by rw [nb_extract, hk, ← nb_length, List.take_length]; exact HW.out
    have p2 : wl (nb (a.extract k a.size)) = true := by rw [nb_extract, hk, ← nb_length, List.take_length, List.drop_length]; rfl
    have P1 := Aside0.mk p1
    have P2 := Aside0.mk p2
    have ek : (k : Int) = a.size := by omega
    have ek2 : ((k : Int) == a.size) = true := beq_iff_eq.2 ek
    clear p1 p2 hk hw ek
    go_enter Try.func12, Try.ntmps12
    go_wp2_with fail
    refine (known_calls _).mono ?_
    rintro e w1 ⟨rfl, hb⟩
    have B1 := Aside0.mk hb
    clear hb
    go_wp2_with fail
    refine (Well_wl a true _ (by omega) HW.out).mono ?_
    rintro e w2 ⟨rfl, hb⟩
    have B2 := Aside0.mk (below_step B1.out hb)
    clear hb
    go_wp2_with fail
    refine (Well_wl _ true _ S3.out P1.out).mono ?_
    rintro e w3 ⟨rfl, hb⟩
    have B3 := Aside0.mk (below_step B2.out hb)
    clear hb
    go_wp2_with fail
    refine (Well_wl _ true _ S4.out P2.out).mono ?_
    rintro e w4 ⟨rfl, hb⟩
    have B4 := Aside0.mk (below_step B3.out hb)
    clear hb
    go_wp2_with fail
    refine (Well_wl _ r _ S1.out R1.out).mono ?_
    rintro e w5 ⟨rfl, hb⟩
    have B5 := Aside0.mk (below_step B4.out hb)
    clear hb
    go_wp2_with fail
    refine (Well_wl _ r _ (by omega) RB.out).mono ?_
    rintro e w6 ⟨rfl, hb⟩
    have B6 := Aside0.mk (below_step B5.out hb)
    clear hb
    go_wp2_with fail
    refine (Well_wl _ r _ S2.out R2.out).mono ?_
    rintro e w7 ⟨rfl, hb⟩
    have B7 := Aside0.mk (below_step B6.out hb)
    clear hb
    go_wp2_with fail
    refine (Well_wl _ r _ (by omega) RB.out).mono ?_
    rintro e w8 ⟨rfl, hb⟩
    have B8 := Aside0.mk (below_step B7.out hb)
    clear hb
    go_wp2
    go_ret
    exact ⟨rfl, B8.out⟩
  · have hk2 : k < a.size := by omega
    obtain ⟨v, hv⟩ : ∃ v, (nb a).getD k 0 = v := ⟨_, rfl⟩
    have i0 := idx_at a k hk2 k rfl v (by rw [hv])
    have hd : nb a = (nb a).take k ++ v :: (nb a).drop (k + 1) := by
      have hk3 : k < (nb a).length := by rw [nb_length]; exact hk2
      have e : (nb a)[k] = v := by rw [← hv, List.getD_eq_getElem?_getD, List.getElem?_eq_getElem hk3]; rfl
      rw [← e, ← List.drop_eq_getElem_cons hk3, List.take_append_drop]
    have hk3 : k < (nb a).length := by rw [nb_length]; exact hk2
    have e1 : nb (a.extract 0 k) = (nb a).take k := by rw [nb_extract, List.drop_zero]
    have e2 : nb (a.extract k a.size) = v :: (nb a).drop (k + 1) := by
      rw [nb_extract, ← nb_length, List.take_length]
      have e : (nb a)[k] = v := by rw [← hv, List.getD_eq_getElem?_getD, List.getElem?_eq_getElem hk3]; rfl
      rw [← e, ← List.drop_eq_getElem_cons hk3]
    rw [hd] at hw
    obtain ⟨p1, p2⟩ := wl_cut hw
    rw [← e1] at p1
    rw [← e2] at p2
    clear e1 e2 hd hv hk3 hw
    have ek2 : ((k : Int) == a.size) = false := beq_eq_false_iff_ne.2 (by omega)
    clear hk
    rcases (show v < 128 ∨ 192 ≤ v ∨ (128 ≤ v ∧ v < 192) by omega) with c | c | ⟨c, c2⟩
    · have hc : isCont v = false := by
        unfold isCont
        rw [beq_eq_false_iff_ne]
        omega
      rw [hc] at p1 p2
      have P1 := Aside0.mk (show wl (nb (a.extract 0 k)) = true from p1)
      have P2 := Aside0.mk (show wl (nb (a.extract k a.size)) = true from p2)
      clear p1 p2 hc
      have cv : (v : Int) < 128 := by omega
      clear c
      go_enter Try.func12, Try.ntmps12
      go_wp2_with fail
      refine (known_calls _).mono ?_
      rintro e w1 ⟨rfl, hb⟩
      have B1 := Aside0.mk hb
      clear hb
      go_wp2_with fail
      refine (Well_wl a true _ (by omega) HW.out).mono ?_
      rintro e w2 ⟨rfl, hb⟩
      have B2 := Aside0.mk (below_step B1.out hb)
      clear hb
      go_wp2_with fail
      refine (Well_wl _ true _ S3.out P1.out).mono ?_
      rintro e w3 ⟨rfl, hb⟩
      have B3 := Aside0.mk (below_step B2.out hb)
      clear hb
      go_wp2_with fail
      refine (Well_wl _ true _ S4.out P2.out).mono ?_
      rintro e w4 ⟨rfl, hb⟩
      have B4 := Aside0.mk (below_step B3.out hb)
      clear hb
      go_wp2_with fail
      refine (Well_wl _ r _ S1.out R1.out).mono ?_
      rintro e w5 ⟨rfl, hb⟩
      have B5 := Aside0.mk (below_step B4.out hb)
      clear hb
      go_wp2_with fail
      refine (Well_wl _ r _ (by omega) RB.out).mono ?_
      rintro e w6 ⟨rfl, hb⟩
      have B6 := Aside0.mk (below_step B5.out hb)
      clear hb
      go_wp2_with fail
      refine (Well_wl _ r _ S2.out R2.out).mono ?_
      rintro e w7 ⟨rfl, hb⟩
      have B7 := Aside0.mk (below_step B6.out hb)
      clear hb
      go_wp2_with fail
      refine (Well_wl _ r _ (by omega) RB.out).mono ?_
      rintro e w8 ⟨rfl, hb⟩
      have B8 := Aside0.mk (below_step B7.out hb)
      clear hb
      go_wp2
      go_ret
      exact ⟨rfl, B8.out⟩
    · have hc : isCont v = false := by
        unfold isCont
        rw [beq_eq_false_iff_ne]
        omega
      rw [hc] at p1 p2
      have P1 := Aside0.mk (show wl (nb (a.extract 0 k)) = true from p1)
      have P2 := Aside0.mk (show wl (nb (a.extract k a.size)) = true from p2)
      clear p1 p2 hc
      have cv : ¬ (v : Int) < 128 := by omega
      have cv2 : (192 : Int) ≤ v := by omega
      clear c
      go_enter Try.func12, Try.ntmps12
      go_wp2_with fail
      refine (known_calls _).mono ?_
      rintro e w1 ⟨rfl, hb⟩
      have B1 := Aside0.mk hb
      clear hb
      go_wp2_with fail
      refine (Well_wl a true _ (by omega) HW.out).mono ?_
      rintro e w2 ⟨rfl, hb⟩
      have B2 := Aside0.mk (below_step B1.out hb)
      clear hb
      go_wp2_with fail
      refine (Well_wl _ true _ S3.out P1.out).mono ?_
      rintro e w3 ⟨rfl, hb⟩
      have B3 := Aside0.mk (below_step B2.out hb)
      clear hb
      go_wp2_with fail
      refine (Well_wl _ true _ S4.out P2.out).mono ?_
      rintro e w4 ⟨rfl, hb⟩
      have B4 := Aside0.mk (below_step B3.out hb)
      clear hb
      go_wp2_with fail
      refine (Well_wl _ r _ S1.out R1.out).mono ?_
      rintro e w5 ⟨rfl, hb⟩
      have B5 := Aside0.mk (below_step B4.out hb)
      clear hb
      go_wp2_with fail
      refine (Well_wl _ r _ (by omega) RB.out).mono ?_
      rintro e w6 ⟨rfl, hb⟩
      have B6 := Aside0.mk (below_step B5.out hb)
      clear hb
      go_wp2_with fail
      refine (Well_wl _ r _ S2.out R2.out).mono ?_
      rintro e w7 ⟨rfl, hb⟩
      have B7 := Aside0.mk (below_step B6.out hb)
      clear hb
      go_wp2_with fail
      refine (Well_wl _ r _ (by omega) RB.out).mono ?_
      rintro e w8 ⟨rfl, hb⟩
      have B8 := Aside0.mk (below_step B7.out hb)
      clear hb
      go_wp2
      go_ret
      exact ⟨rfl, B8.out⟩
    · have hc : isCont v = true := by
        unfold isCont
        rw [beq_iff_eq]
        omega
      rw [hc] at p1 p2
      have P1 := Aside0.mk (show wl (nb (a.extract 0 k)) = false from p1)
      have P2 := Aside0.mk (show wl (nb (a.extract k a.size)) = false from p2)
      clear p1 p2 hc
      have cv : ¬ (v : Int) < 128 := by omega
      have cv2 : ¬ (192 : Int) ≤ v := by omega
      clear c c2
      go_enter Try.func12, Try.ntmps12
      go_wp2_with fail
      refine (known_calls _).mono ?_
      rintro e w1 ⟨rfl, hb⟩
      have B1 := Aside0.mk hb
      clear hb
      go_wp2_with fail
      refine (Well_wl a true _ (by omega) HW.out).mono ?_
      rintro e w2 ⟨rfl, hb⟩
      have B2 := Aside0.mk (below_step B1.out hb)
      clear hb
      go_wp2_with fail
      refine (Well_wl _ false _ S3.out P1.out).mono ?_
      rintro e w3 ⟨rfl, hb⟩
      have B3 := Aside0.mk (below_step B2.out hb)
      clear hb
      go_wp2_with fail
      refine (Well_wl _ false _ S4.out P2.out).mono ?_
      rintro e w4 ⟨rfl, hb⟩
      have B4 := Aside0.mk (below_step B3.out hb)
      clear hb
      go_wp2_with fail
      refine (Well_wl _ r _ S1.out R1.out).mono ?_
      rintro e w5 ⟨rfl, hb⟩
      have B5 := Aside0.mk (below_step B4.out hb)
      clear hb
      go_wp2_with fail
      refine (Well_wl _ r _ (by omega) RB.out).mono ?_
      rintro e w6 ⟨rfl, hb⟩
      have B6 := Aside0.mk (below_step B5.out hb)
      clear hb
      go_wp2_with fail
      refine (Well_wl _ r _ S2.out R2.out).mono ?_
      rintro e w7 ⟨rfl, hb⟩
      have B7 := Aside0.mk (below_step B6.out hb)
      clear hb
      go_wp2_with fail
      refine (Well_wl _ r _ (by omega) RB.out).mono ?_
      rintro e w8 ⟨rfl, hb⟩
      have B8 := Aside0.mk (below_step B7.out hb)
      clear hb
      go_wp2
      go_ret
      exact ⟨rfl, B8.out⟩
end Go.Proofs.Ythghmbfbjnedfaa.Nm
