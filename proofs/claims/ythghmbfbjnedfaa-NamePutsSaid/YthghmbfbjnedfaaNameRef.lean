/- Layer 2: the walks of the reference's One and Count. -/
import Derived.Test.YthghmbfbjnedfaaNameOne
namespace Go.Proofs.Ythghmbfbjnedfaa.Nm
open Go.RowKit Go.Proofs.YthghmbfbjnedfaaW.PrintWords Go.Proofs.Ythghmbfbjnedfaa.BitsA Go.Proofs.Ythghmbfbjnedfaa.Lb Go.Proofs.Ythghmbfbjnedfaa.Leb
theorem nb_extract' (s : ByteArray) (i j : Nat) : nb (s.extract i j) = ((nb s).take j).drop i := by
  unfold nb
  rw [ByteArray.data_extract, Array.toList_extract, List.extract_eq_take_drop, List.map_take, List.map_drop, List.drop_take]
theorem vl_bound (s : ByteArray) (c : Int) (h0 : 0 ≤ c) (h1 : c ≤ 31) : ∀ k, contTo s (k + 1) → 0 ≤ vl s c k ∧ vl s c k + 1 ≤ 32 * 64 ^ k
  | 0, _ => ⟨h0, by show c + 1 ≤ 32 * 1; omega⟩
  | k + 1, h => by
    obtain ⟨a, b⟩ := vl_bound s c h0 h1 k (fun i hi hk => h i hi (by omega))
    have hc := (isCont_iff (byte_le s (k + 1))).1 (h (k + 1) (by omega) (by omega))
    have e : (64 : Int) ^ (k + 1) = 64 ^ k * 64 := Int.pow_succ 64 k
    rw [e]
    generalize hP : (64 : Int) ^ k = P at *
    generalize hB : (nb s).getD (k + 1) 0 = B at *
    have ev : vl s c (k + 1) = vl s c k * 64 + (B : Int) - 128 := by show vl s c k * 64 + (((nb s).getD (k + 1) 0 : Nat) : Int) - 128 = _; rw [hB]
    omega
theorem vl_bound3 (s : ByteArray) (c : Int) (h0 : 0 ≤ c) (h1 : c ≤ 31) (k : Nat) (hk : k ≤ 3) (h : contTo s (k + 1)) : 0 ≤ vl s c k ∧ vl s c k ≤ 8388608 := by
  obtain ⟨a, b⟩ := vl_bound s c h0 h1 k h
  refine ⟨a, ?_⟩
  have : (64 : Int) ^ k ≤ 64 ^ 3 := by exact_mod_cast Nat.pow_le_pow_right (by decide) hk
  have e : (64 : Int) ^ 3 = 262144 := by decide
  omega
set_option maxHeartbeats 4000000 in
set_option maxRecDepth 100000 in
theorem refOne_calls (s : ByteArray) (w : World) (hs : s.size ≤ 1000000) : Calls Try.prog 71 #[.string s] w fun e w' => e = .returned (.int .i64 (one (nb s))) ∧ Below w.heap.size w w' := by
  obtain ⟨R, hR⟩ : ∃ R, one (nb s) = R := ⟨_, rfl⟩
  rw [hR]
  have HR := Aside0.mk hR
  clear hR
  by_cases h0 : s.size = 0
  · have e : nb s = [] := List.eq_nil_of_length_eq_zero (by rw [nb_length]; exact h0)
    have hR := HR.out
    rw [e] at hR
    have hR2 : R = 0 := hR.symm
    subst hR2
    clear hR e HR
    have h0i : ((s.size : Int) == 0) = true := beq_iff_eq.2 (by omega)
    go_enter Try.func71, Try.ntmps71
    go_wp2
    go_ret
    exact ⟨rfl, Below.refl _ _⟩
  have h0i : ((s.size : Int) == 0) = false := beq_eq_false_iff_ne.2 (by omega)
  have hpos : 0 < s.size := by omega
  clear h0
  obtain ⟨b, hb⟩ : ∃ b, (nb s).getD 0 0 = b := ⟨_, rfl⟩
  have hb255 := byte_le s 0
  rw [hb] at hb255
  have i0 := idx_at s 0 hpos 0 rfl b (by rw [hb])
  have HBy := Aside0.mk hb
  clear hb
  by_cases c0 : b < 128
  · have hR : R = 1 := by rw [← HR.out]; exact one_1 s hpos (by rw [HBy.out]; exact c0)
    subst hR
    have c0i : (b : Int) < 128 := by omega
    clear c0 HR HBy
    go_enter Try.func71, Try.ntmps71
    go_wp2
    go_ret
    exact ⟨rfl, Below.refl _ _⟩
  have c0i : ¬ (b : Int) < 128 := by omega
  by_cases co : 192 ≤ b ∧ b < 248
  · rcases (show (192 ≤ b ∧ b < 224) ∨ (224 ≤ b ∧ b < 240) ∨ (240 ≤ b ∧ b < 248) by omega) with ⟨d0, d1⟩ | ⟨d0, d1⟩ | ⟨d0, d1⟩
    · have dv : b / 32 = 6 := by omega
      have e1 : (192 : Int) ≤ b := by omega
      have e2 : (b : Int) < 224 := by omega
      by_cases hn : s.size < 2
      · have hR : R = 0 := by rw [← HR.out]; exact one_short s hpos 2 (by rw [HBy.out]; omega) hn (.inl ⟨rfl, by rw [HBy.out]; omega⟩)
        subst hR
        have hni : (s.size : Int) < 2 := by omega
        clear HR HBy hn c0 co d0 d1 dv
        go_enter Try.func71, Try.ntmps71
        go_wp2
        go_ret
        exact ⟨rfl, Below.refl _ _⟩
      obtain ⟨F1, F2, F3⟩ := one_full s 2 (by omega) ((b : Int) - 192) (.inl ⟨rfl, by rw [HBy.out]; omega, by rw [HBy.out]⟩)
      rw [HR.out] at F1 F2
      have hni : ¬ (s.size : Int) < 2 := by omega
      have G1 := Aside0.mk F1
      have G2 := Aside0.mk F2
      clear F1 F2 F3 HR c0 co dv
      have hv0 : (0 : Int) ≤ (b : Int) - 192 := by omega
      have hv1 : (b : Int) - 192 ≤ 31 := by omega
      go_enter Try.func71, Try.ntmps71
      go_wp2
      go_loopw [4, 5] (fun v4 v5 wr => ∃ j : Nat, wr = w ∧ v5 = .int .i64 ((j : Int) + 1) ∧ v4 = .int .i64 (vl s ((b : Int) - 192) j) ∧ j + 1 ≤ 2 ∧ Aside0 (contTo s (j + 1))) (fun _ v5 _ => (2 - intOf v5).toNat)
      case atStart => exact ⟨0, rfl, rfl, rfl, by omega, ⟨fun k h1 h2 => by omega⟩⟩
      case round =>
        obtain ⟨j, rfl, rfl, rfl, hj, HC⟩ := hrel
        obtain ⟨vb0, vb1⟩ := vl_bound3 s ((b : Int) - 192) hv0 hv1 j (by omega) HC.out
        by_cases hq : j + 1 < 2
        · obtain ⟨v, hv⟩ : ∃ v, (nb s).getD (j + 1) 0 = v := ⟨_, rfl⟩
          have hv255 := byte_le s (j + 1)
          rw [hv] at hv255
          have ij := idx_at s (j + 1) (by omega) ((j : Int) + 1) (by omega) v (by rw [hv])
          have HV := Aside0.mk hv
          have hqi : (j : Int) + 1 < 2 := by omega
          clear hv
          by_cases g1 : (v : Int) < 128
          · have hR : R = 0 := G2.out (j + 1) (by omega) hq (by rw [HV.out]; unfold isCont; rw [beq_eq_false_iff_ne]; omega)
            subst hR
            go_wp2
            go_ret
            exact ⟨rfl, Below.refl _ _⟩
          · by_cases g2 : (191 : Int) < v
            · have hR : R = 0 := G2.out (j + 1) (by omega) hq (by rw [HV.out]; unfold isCont; rw [beq_eq_false_iff_ne]; omega)
              subst hR
              go_wp2
              go_ret
              exact ⟨rfl, Below.refl _ _⟩
            · have hcv : isCont v = true := (isCont_iff hv255).2 ⟨by omega, by omega⟩
              have ev : vl s ((b : Int) - 192) (j + 1) = vl s ((b : Int) - 192) j * 64 + v - 128 := by
                show vl s ((b : Int) - 192) j * 64 + (((nb s).getD (j + 1) 0 : Nat) : Int) - 128 = _
                rw [HV.out]
              have EV := Aside0.mk ev
              have CV := Aside0.mk hcv
              clear ev hcv
              obtain ⟨V, hV⟩ : ∃ V, vl s ((b : Int) - 192) j = V := ⟨_, rfl⟩
              rw [hV] at vb0 vb1 ⊢
              have HVV := Aside0.mk hV
              clear hV
              go_wp2
              refine ⟨⟨j + 1, by trivial, by simp, by rw [EV.out, HVV.out], by omega, ⟨fun k h1 h2 => ?_⟩⟩, ?_⟩
              · rcases (show k < j + 1 ∨ k = j + 1 by omega) with hk | rfl
                · exact HC.out k h1 hk
                · rw [HV.out]; exact CV.out
              · simp [intOf]
                omega
        · obtain rfl : j = 1 := by omega
          have hR := G1.out HC.out
          obtain ⟨V, hV⟩ : ∃ V, vl s ((b : Int) - 192) 1 = V := ⟨_, rfl⟩
          rw [hV] at vb0 vb1 ⊢
          have hR2 : R = if okc 2 V = true then 2 else 0 := by rw [← hV]; exact hR
          clear hR hV G1 G2 HC hq hj
          by_cases t1 : V < 128
          · have hk : okc 2 V = false := by unfold okc; simp; omega
            have hR3 : R = 0 := by rw [hR2, hk]; rfl
            subst hR3
            clear hR2 hk
            go_wp2
            go_ret
            exact ⟨rfl, below_alloc (Below.refl _ _) _⟩
          by_cases t2 : 1114111 < V
          · have hk : okc 2 V = false := by unfold okc; simp; omega
            have hR3 : R = 0 := by rw [hR2, hk]; rfl
            subst hR3
            clear hR2 hk
            go_wp2
            go_ret
            exact ⟨rfl, below_alloc (Below.refl _ _) _⟩
          by_cases t3 : V < 55296
          · have hk : okc 2 V = true := by unfold okc; simp; omega
            have hR3 : R = 2 := by rw [hR2, hk]; rfl
            have t3b : ¬ 55296 ≤ V := by omega
            subst hR3
            clear hR2 hk
            go_wp2
            go_ret
            exact ⟨rfl, below_alloc (Below.refl _ _) _⟩
          by_cases t4 : V ≤ 57343
          · have hk : okc 2 V = false := by unfold okc; simp; omega
            have hR3 : R = 0 := by rw [hR2, hk]; rfl
            have t3b : 55296 ≤ V := by omega
            subst hR3
            clear hR2 hk
            go_wp2
            go_ret
            exact ⟨rfl, below_alloc (Below.refl _ _) _⟩
          · have hk : okc 2 V = true := by unfold okc; simp; omega
            have hR3 : R = 2 := by rw [hR2, hk]; rfl
            have t3b : 55296 ≤ V := by omega
            subst hR3
            clear hR2 hk
            go_wp2
            go_ret
            exact ⟨rfl, below_alloc (Below.refl _ _) _⟩
    · have dv : b / 16 = 14 := by omega
      have e1 : (192 : Int) ≤ b := by omega
      have e2 : ¬ (b : Int) < 224 := by omega
      have e3 : (224 : Int) ≤ b := by omega
      have e4 : (b : Int) < 240 := by omega
      by_cases hn : s.size < 3
      · have hR : R = 0 := by rw [← HR.out]; exact one_short s hpos 3 (by rw [HBy.out]; omega) hn (.inr (.inl ⟨rfl, by rw [HBy.out]; omega⟩))
        subst hR
        have hni : (s.size : Int) < 3 := by omega
        clear HR HBy hn c0 co d0 d1 dv
        go_enter Try.func71, Try.ntmps71
        go_wp2
        go_ret
        exact ⟨rfl, Below.refl _ _⟩
      obtain ⟨F1, F2, F3⟩ := one_full s 3 (by omega) ((b : Int) - 224) (.inr (.inl ⟨rfl, by rw [HBy.out]; omega, by rw [HBy.out]⟩))
      rw [HR.out] at F1 F2
      have hni : ¬ (s.size : Int) < 3 := by omega
      have G1 := Aside0.mk F1
      have G2 := Aside0.mk F2
      clear F1 F2 F3 HR c0 co dv
      have hv0 : (0 : Int) ≤ (b : Int) - 224 := by omega
      have hv1 : (b : Int) - 224 ≤ 31 := by omega
      go_enter Try.func71, Try.ntmps71
      go_wp2
      go_loopw [4, 5] (fun v4 v5 wr => ∃ j : Nat, wr = w ∧ v5 = .int .i64 ((j : Int) + 1) ∧ v4 = .int .i64 (vl s ((b : Int) - 224) j) ∧ j + 1 ≤ 3 ∧ Aside0 (contTo s (j + 1))) (fun _ v5 _ => (3 - intOf v5).toNat)
      case atStart => exact ⟨0, rfl, rfl, rfl, by omega, ⟨fun k h1 h2 => by omega⟩⟩
      case round =>
        obtain ⟨j, rfl, rfl, rfl, hj, HC⟩ := hrel
        obtain ⟨vb0, vb1⟩ := vl_bound3 s ((b : Int) - 224) hv0 hv1 j (by omega) HC.out
        by_cases hq : j + 1 < 3
        · obtain ⟨v, hv⟩ : ∃ v, (nb s).getD (j + 1) 0 = v := ⟨_, rfl⟩
          have hv255 := byte_le s (j + 1)
          rw [hv] at hv255
          have ij := idx_at s (j + 1) (by omega) ((j : Int) + 1) (by omega) v (by rw [hv])
          have HV := Aside0.mk hv
          have hqi : (j : Int) + 1 < 3 := by omega
          clear hv
          by_cases g1 : (v : Int) < 128
          · have hR : R = 0 := G2.out (j + 1) (by omega) hq (by rw [HV.out]; unfold isCont; rw [beq_eq_false_iff_ne]; omega)
            subst hR
            go_wp2
            go_ret
            exact ⟨rfl, Below.refl _ _⟩
          · by_cases g2 : (191 : Int) < v
            · have hR : R = 0 := G2.out (j + 1) (by omega) hq (by rw [HV.out]; unfold isCont; rw [beq_eq_false_iff_ne]; omega)
              subst hR
              go_wp2
              go_ret
              exact ⟨rfl, Below.refl _ _⟩
            · have hcv : isCont v = true := (isCont_iff hv255).2 ⟨by omega, by omega⟩
              have ev : vl s ((b : Int) - 224) (j + 1) = vl s ((b : Int) - 224) j * 64 + v - 128 := by
                show vl s ((b : Int) - 224) j * 64 + (((nb s).getD (j + 1) 0 : Nat) : Int) - 128 = _
                rw [HV.out]
              have EV := Aside0.mk ev
              have CV := Aside0.mk hcv
              clear ev hcv
              obtain ⟨V, hV⟩ : ∃ V, vl s ((b : Int) - 224) j = V := ⟨_, rfl⟩
              rw [hV] at vb0 vb1 ⊢
              have HVV := Aside0.mk hV
              clear hV
              go_wp2
              refine ⟨⟨j + 1, by trivial, by simp, by rw [EV.out, HVV.out], by omega, ⟨fun k h1 h2 => ?_⟩⟩, ?_⟩
              · rcases (show k < j + 1 ∨ k = j + 1 by omega) with hk | rfl
                · exact HC.out k h1 hk
                · rw [HV.out]; exact CV.out
              · simp [intOf]
                omega
        · obtain rfl : j = 2 := by omega
          have hR := G1.out HC.out
          obtain ⟨V, hV⟩ : ∃ V, vl s ((b : Int) - 224) 2 = V := ⟨_, rfl⟩
          rw [hV] at vb0 vb1 ⊢
          have hR2 : R = if okc 3 V = true then 3 else 0 := by rw [← hV]; exact hR
          clear hR hV G1 G2 HC hq hj
          by_cases t1 : V < 2048
          · have hk : okc 3 V = false := by unfold okc; simp; omega
            have hR3 : R = 0 := by rw [hR2, hk]; rfl
            subst hR3
            clear hR2 hk
            go_wp2
            go_ret
            exact ⟨rfl, below_alloc (Below.refl _ _) _⟩
          by_cases t2 : 1114111 < V
          · have hk : okc 3 V = false := by unfold okc; simp; omega
            have hR3 : R = 0 := by rw [hR2, hk]; rfl
            subst hR3
            clear hR2 hk
            go_wp2
            go_ret
            exact ⟨rfl, below_alloc (Below.refl _ _) _⟩
          by_cases t3 : V < 55296
          · have hk : okc 3 V = true := by unfold okc; simp; omega
            have hR3 : R = 3 := by rw [hR2, hk]; rfl
            have t3b : ¬ 55296 ≤ V := by omega
            subst hR3
            clear hR2 hk
            go_wp2
            go_ret
            exact ⟨rfl, below_alloc (Below.refl _ _) _⟩
          by_cases t4 : V ≤ 57343
          · have hk : okc 3 V = false := by unfold okc; simp; omega
            have hR3 : R = 0 := by rw [hR2, hk]; rfl
            have t3b : 55296 ≤ V := by omega
            subst hR3
            clear hR2 hk
            go_wp2
            go_ret
            exact ⟨rfl, below_alloc (Below.refl _ _) _⟩
          · have hk : okc 3 V = true := by unfold okc; simp; omega
            have hR3 : R = 3 := by rw [hR2, hk]; rfl
            have t3b : 55296 ≤ V := by omega
            subst hR3
            clear hR2 hk
            go_wp2
            go_ret
            exact ⟨rfl, below_alloc (Below.refl _ _) _⟩
    · have dv : b / 8 = 30 := by omega
      have e1 : (192 : Int) ≤ b := by omega
      have e2 : ¬ (b : Int) < 224 := by omega
      have e3 : (224 : Int) ≤ b := by omega
      have e4 : ¬ (b : Int) < 240 := by omega
      have e5 : (240 : Int) ≤ b := by omega
      have e6 : (b : Int) < 248 := by omega
      by_cases hn : s.size < 4
      · have hR : R = 0 := by rw [← HR.out]; exact one_short s hpos 4 (by rw [HBy.out]; omega) hn (.inr (.inr ⟨rfl, by rw [HBy.out]; omega⟩))
        subst hR
        have hni : (s.size : Int) < 4 := by omega
        clear HR HBy hn c0 co d0 d1 dv
        go_enter Try.func71, Try.ntmps71
        go_wp2
        go_ret
        exact ⟨rfl, Below.refl _ _⟩
      obtain ⟨F1, F2, F3⟩ := one_full s 4 (by omega) ((b : Int) - 240) (.inr (.inr ⟨rfl, by rw [HBy.out]; omega, by rw [HBy.out]⟩))
      rw [HR.out] at F1 F2
      have hni : ¬ (s.size : Int) < 4 := by omega
      have G1 := Aside0.mk F1
      have G2 := Aside0.mk F2
      clear F1 F2 F3 HR c0 co dv
      have hv0 : (0 : Int) ≤ (b : Int) - 240 := by omega
      have hv1 : (b : Int) - 240 ≤ 31 := by omega
      go_enter Try.func71, Try.ntmps71
      go_wp2
      go_loopw [4, 5] (fun v4 v5 wr => ∃ j : Nat, wr = w ∧ v5 = .int .i64 ((j : Int) + 1) ∧ v4 = .int .i64 (vl s ((b : Int) - 240) j) ∧ j + 1 ≤ 4 ∧ Aside0 (contTo s (j + 1))) (fun _ v5 _ => (4 - intOf v5).toNat)
      case atStart => exact ⟨0, rfl, rfl, rfl, by omega, ⟨fun k h1 h2 => by omega⟩⟩
      case round =>
        obtain ⟨j, rfl, rfl, rfl, hj, HC⟩ := hrel
        obtain ⟨vb0, vb1⟩ := vl_bound3 s ((b : Int) - 240) hv0 hv1 j (by omega) HC.out
        by_cases hq : j + 1 < 4
        · obtain ⟨v, hv⟩ : ∃ v, (nb s).getD (j + 1) 0 = v := ⟨_, rfl⟩
          have hv255 := byte_le s (j + 1)
          rw [hv] at hv255
          have ij := idx_at s (j + 1) (by omega) ((j : Int) + 1) (by omega) v (by rw [hv])
          have HV := Aside0.mk hv
          have hqi : (j : Int) + 1 < 4 := by omega
          clear hv
          by_cases g1 : (v : Int) < 128
          · have hR : R = 0 := G2.out (j + 1) (by omega) hq (by rw [HV.out]; unfold isCont; rw [beq_eq_false_iff_ne]; omega)
            subst hR
            go_wp2
            go_ret
            exact ⟨rfl, Below.refl _ _⟩
          · by_cases g2 : (191 : Int) < v
            · have hR : R = 0 := G2.out (j + 1) (by omega) hq (by rw [HV.out]; unfold isCont; rw [beq_eq_false_iff_ne]; omega)
              subst hR
              go_wp2
              go_ret
              exact ⟨rfl, Below.refl _ _⟩
            · have hcv : isCont v = true := (isCont_iff hv255).2 ⟨by omega, by omega⟩
              have ev : vl s ((b : Int) - 240) (j + 1) = vl s ((b : Int) - 240) j * 64 + v - 128 := by
                show vl s ((b : Int) - 240) j * 64 + (((nb s).getD (j + 1) 0 : Nat) : Int) - 128 = _
                rw [HV.out]
              have EV := Aside0.mk ev
              have CV := Aside0.mk hcv
              clear ev hcv
              obtain ⟨V, hV⟩ : ∃ V, vl s ((b : Int) - 240) j = V := ⟨_, rfl⟩
              rw [hV] at vb0 vb1 ⊢
              have HVV := Aside0.mk hV
              clear hV
              go_wp2
              refine ⟨⟨j + 1, by trivial, by simp, by rw [EV.out, HVV.out], by omega, ⟨fun k h1 h2 => ?_⟩⟩, ?_⟩
              · rcases (show k < j + 1 ∨ k = j + 1 by omega) with hk | rfl
                · exact HC.out k h1 hk
                · rw [HV.out]; exact CV.out
              · simp [intOf]
                omega
        · obtain rfl : j = 3 := by omega
          have hR := G1.out HC.out
          obtain ⟨V, hV⟩ : ∃ V, vl s ((b : Int) - 240) 3 = V := ⟨_, rfl⟩
          rw [hV] at vb0 vb1 ⊢
          have hR2 : R = if okc 4 V = true then 4 else 0 := by rw [← hV]; exact hR
          clear hR hV G1 G2 HC hq hj
          by_cases t1 : V < 65536
          · have hk : okc 4 V = false := by unfold okc; simp; omega
            have hR3 : R = 0 := by rw [hR2, hk]; rfl
            subst hR3
            clear hR2 hk
            go_wp2
            go_ret
            exact ⟨rfl, below_alloc (Below.refl _ _) _⟩
          by_cases t2 : 1114111 < V
          · have hk : okc 4 V = false := by unfold okc; simp; omega
            have hR3 : R = 0 := by rw [hR2, hk]; rfl
            subst hR3
            clear hR2 hk
            go_wp2
            go_ret
            exact ⟨rfl, below_alloc (Below.refl _ _) _⟩
          have t3b : 55296 ≤ V := by omega
          have t4 : ¬ V ≤ 57343 := by omega
          have hk : okc 4 V = true := by unfold okc; simp; omega
          have hR3 : R = 4 := by rw [hR2, hk]; rfl
          subst hR3
          clear hR2 hk
          go_wp2
          go_ret
          exact ⟨rfl, below_alloc (Below.refl _ _) _⟩
  · have hR : R = 0 := by rw [← HR.out]; exact one_other s hpos (by rw [HBy.out]; omega) (by rw [HBy.out]; exact co)
    subst hR
    clear HR HBy
    rcases (show b < 192 ∨ 248 ≤ b by omega) with d | d
    · have e1 : ¬ (192 : Int) ≤ b := by omega
      have e2 : ¬ (224 : Int) ≤ b := by omega
      have e3 : ¬ (240 : Int) ≤ b := by omega
      clear c0 co d
      go_enter Try.func71, Try.ntmps71
      go_wp2
      go_ret
      exact ⟨rfl, Below.refl _ _⟩
    · have e1 : (192 : Int) ≤ b := by omega
      have e2 : ¬ (b : Int) < 224 := by omega
      have e3 : (224 : Int) ≤ b := by omega
      have e4 : ¬ (b : Int) < 240 := by omega
      have e5 : (240 : Int) ≤ b := by omega
      have e6 : ¬ (b : Int) < 248 := by omega
      clear c0 co d
      go_enter Try.func71, Try.ntmps71
      go_wp2
      go_ret
      exact ⟨rfl, Below.refl _ _⟩
theorem refOne_val (s : ByteArray) (z : Nat) (w : World) (hs : s.size ≤ 1000000) (h : one (nb s) = z) : Calls Try.prog 71 #[.string s] w fun e w' => e = .returned (.int .i64 z) ∧ Below w.heap.size w w' := by
  subst h
  exact refOne_calls s w hs
set_option maxHeartbeats 2000000 in
set_option maxRecDepth 100000 in
theorem refCount_val (s : ByteArray) (R : Int) (w : World) (hs : s.size ≤ 1000000) (hR : CI (nb s) = R) : Calls Try.prog 33 #[.string s] w fun e w' => e = .returned (.int .i64 R) ∧ Below w.heap.size w w' := by
  have HR := Aside0.mk hR
  clear hR
  go_enter Try.func33, Try.ntmps33
  go_wp2
  go_loopw [3, 4] (fun v3 v4 wr => ∃ p n : Nat, v3 = .int .i64 n ∧ v4 = .int .i64 p ∧ p ≤ s.size ∧ n ≤ p ∧ Aside0 (Below w.heap.size w wr) ∧ Aside0 (R = if CI ((nb s).drop p) < 0 then -1 else CI ((nb s).drop p) + n)) (fun _ v4 _ => (s.size - intOf v4).toNat)
  case atStart =>
    refine ⟨0, 0, rfl, rfl, by omega, by omega, ⟨Below.refl _ _⟩, ⟨?_⟩⟩
    rw [← HR.out]
    have := CI_ge (nb s)
    simp
    intro h
    omega
  case round =>
    obtain ⟨p, n, rfl, rfl, hp, hn, HB, HC⟩ := hrel
    by_cases hq : p < s.size
    · have hne : (nb s).drop p ≠ [] := by
        intro h
        have := congrArg List.length h
        rw [List.length_drop, nb_length] at this
        simp at this
        omega
      have hex : nb (s.extract p s.size) = (nb s).drop p := by rw [nb_extract', ← nb_length, List.take_length]
      have hsz : (s.extract p s.size).size ≤ 1000000 := by
        rw [← nb_length, hex, List.length_drop, nb_length]
        omega
      obtain ⟨z, hz⟩ : ∃ z, one ((nb s).drop p) = z := ⟨_, rfl⟩
      have h1 := one_le ((nb s).drop p)
      rw [hz, List.length_drop, nb_length] at h1
      have HZ := Aside0.mk (show one (nb (s.extract p s.size)) = z by rw [hex]; exact hz)
      have HS := Aside0.mk hsz
      have hqi : (p : Int) < s.size := by omega
      by_cases h0 : z = 0
      · have hR : R = -1 := by
          rw [HC.out, CI_bad hne (hz.trans h0)]
          rfl
        subst hR h0
        clear hz hne hex hsz HC HR
        go_wp2_with fail
        refine (refOne_val _ 0 _ HS.out HZ.out).mono ?_
        rintro e w1 ⟨rfl, hb⟩
        have B1 := Aside0.mk (below_step HB.out hb)
        clear hb
        go_wp2
        go_ret
        exact ⟨rfl, B1.out⟩
      · have hC := CI_good hne (by rw [hz]; exact h0)
        rw [hz, List.drop_drop] at hC
        have HC2 := Aside0.mk hC
        have hz0 : ((z : Int) == 0) = false := beq_eq_false_iff_ne.2 (by omega)
        clear hz hne hex hsz hC
        go_wp2_with fail
        refine (refOne_val _ z _ HS.out HZ.out).mono ?_
        rintro e w1 ⟨rfl, hb⟩
        have B1 := Aside0.mk (below_step HB.out hb)
        clear hb
        go_wp2
        refine ⟨⟨p + z, n + 1, by simp, by simp, by omega, by omega, ⟨B1.out⟩, ⟨?_⟩⟩, ?_⟩
        · have hc := HC.out
          have hc2 := HC2.out
          have hg := CI_ge ((nb s).drop (p + z))
          clear HC HC2
          generalize CI ((nb s).drop (p + z)) = x at hc2 hg ⊢
          generalize CI ((nb s).drop p) = y at hc hc2
          subst hc hc2
          push_cast
          repeat' split
          all_goals omega
        · simp [intOf]
          omega
    · have hqi : ¬ (p : Int) < s.size := by omega
      go_wp2
      go_ret
      have e : R = n := by
        rw [HC.out, List.drop_eq_nil_of_le (by rw [nb_length]; omega), CI_nil]
        simp
      subst e
      exact ⟨rfl, HB.out⟩
end Go.Proofs.Ythghmbfbjnedfaa.Nm
