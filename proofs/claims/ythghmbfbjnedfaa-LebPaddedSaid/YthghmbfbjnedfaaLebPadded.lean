/- The law LebPadded: its walk. -/
import Derived.Test.YthghmbfbjnedfaaLebLawA
import Derived.Deep.CutBlock
namespace Go.Proofs.Ythghmbfbjnedfaa.Leb
open Go.RowKit Go.Proofs.YthghmbfbjnedfaaW.PrintWords Go.Proofs.Ythghmbfbjnedfaa.Base Go.Proofs.Ythghmbfbjnedfaa.BitsA Go.Proofs.Ythghmbfbjnedfaa.Lb
/-- Bytes that all go on, of a number. -/
def Pad (n : Int) (l : List Int) : Prop := (∀ y ∈ l, 128 ≤ y ∧ y ≤ 255) ∧ val l = n
theorem Pad.more {n : Int} {l : List Int} (h : Pad n l) : Pad n (l ++ [128]) :=
  ⟨fun y hy => by
    rcases List.mem_append.1 hy with hy | hy
    · exact h.1 y hy
    · simp at hy; omega, by rw [val_append, h.2]; simp⟩
theorem Pad.of_U {n : Int} (h0 : 0 ≤ n) (h1 : n ≤ 18446744073709551615) (x y : Int) (hx : rd (U n) (((U n).length - 1 : Nat) : Int) = x) (hy : y = x + 128) : Pad n ((U n).set ((U n).length - 1) y) := by
  obtain ⟨c, z, e, hc, hx0, hx1, hv, _⟩ := U_enc n h0 h1
  have hr := rd_at c z []
  rw [e] at hx ⊢
  simp only [List.length_append, List.length_singleton, Nat.add_sub_cancel] at hx ⊢
  rw [hr] at hx
  subst hx hy
  have e2 : (c ++ [z]).set c.length (z + 128) = c ++ [z + 128] := by simp
  rw [e2]
  refine ⟨fun w hw => ?_, ?_⟩
  · rcases List.mem_append.1 hw with hw | hw
    · exact hc w hw
    · simp at hw; omega
  · rw [val_append]; rw [val_append] at hv
    have : (z + 128) % 128 = z % 128 := by omega
    rw [this]; exact hv
theorem last_U {n : Int} (h0 : 0 ≤ n) (h1 : n ≤ 18446744073709551615) : 0 < (U n).length ∧ 0 ≤ rd (U n) (((U n).length - 1 : Nat) : Int) ∧ rd (U n) (((U n).length - 1 : Nat) : Int) < 128 := by
  obtain ⟨c, z, e, hc, hx0, hx1, hv, _⟩ := U_enc n h0 h1
  have hr := rd_at c z []
  rw [e]
  simp only [List.length_append, List.length_singleton, Nat.add_sub_cancel]
  rw [hr]
  exact ⟨by omega, hx0, hx1⟩
theorem rdL_long (bits : Int) (sg : Bool) : ∀ (c pre suf : List Int) (k : Nat) (n p : Int), (∀ y ∈ c, 128 ≤ y ∧ y ≤ 255) → p < bits → bits ≤ p + 7 * c.length → bits ≤ p + 7 * k → (rdL (pre ++ (c ++ suf)) bits sg k pre.length n p).2.2 = 11
  | [], pre, suf, k, n, p, _, hp, hl, hk => by simp at hl; omega
  | y :: c, pre, suf, k, n, p, hc, hp, hl, hk => by
    obtain ⟨k, rfl⟩ : ∃ j, k = j + 1 := ⟨k - 1, by omega⟩
    have hy := hc y (by simp)
    simp only [List.length_cons] at hl
    simp only [List.cons_append, rdL, rd_at]
    rw [if_pos (by simp; omega)]
    split
    · rfl
    · rw [if_neg (by omega)]
      split
      · rfl
      · have ih := rdL_long bits sg c (pre ++ [y]) suf k (nxt n y p) (p + 7) (fun z hz => hc z (by simp [hz])) (by omega) (by omega) (by omega)
        simp only [List.append_assoc, List.singleton_append, List.length_append, List.length_singleton] at ih
        have e2 : ((pre.length : Int) + 1) = ((pre.length + 1 : Nat) : Int) := by omega
        rw [e2, ih]
theorem Pad.read {n : Int} {l : List Int} (h : Pad n l) (bits : Nat) (hb : 1 ≤ bits) (hb2 : bits ≤ 64) (hl : 7 * l.length < bits) : readU (l ++ [0]) 0 bits = (n, (l.length : Int) + 1, 0) := by
  have := readU_enc bits l 0 [] [] h.1 (by omega) (by omega) hb2 hl (two_pow_pos _)
  rw [val_append, h.2] at this
  simpa using this
theorem Pad.long {n : Int} {l : List Int} (h : Pad n l) (bits : Nat) (hb : 1 ≤ bits) (hb2 : bits ≤ 64) (hl : bits ≤ 7 * l.length) : (readU (l ++ [0]) 0 bits).2.2 = 11 := by
  unfold readU readF
  rw [if_pos ⟨by omega, by omega, by omega, by omega⟩]
  have := rdL_long bits false l [] [0] 10 0 0 h.1 (by omega) (by omega) (by omega)
  simpa using this
theorem Pad.bytes {n : Int} {l : List Int} (h : Pad n l) : ∀ y ∈ l ++ [0], 0 ≤ y ∧ y ≤ 255 := fun y hy => by
  rcases List.mem_append.1 hy with hy | hy
  · have := h.1 y hy; omega
  · simp at hy; omega
set_option maxHeartbeats 1000000 in
set_option maxRecDepth 100000 in
theorem LebPadded_no (n more : Int) (w : World) (h : more < 1 ∨ 12 < more) :
    Calls Try.prog 9 #[.int .u64 n, .int .i64 more] w fun e w' => e = .returned (.bool true) ∧ Below w.heap.size w w' := by
  have hs : more < 1 ∨ (1 ≤ more ∧ 12 < more) := by omega
  clear h
  go_enter Try.func9, Try.ntmps9
  rcases hs with h1 | ⟨h1, h2⟩
  all_goals
    go_wp2_with fail
    refine (known_calls _).mono ?_
    rintro e wk ⟨rfl, hbk⟩
    have BK := Aside0.mk hbk
    clear hbk
    go_wp2_with fail
    go_ret
    exact ⟨rfl, BK.out⟩
set_option maxHeartbeats 4000000 in
set_option maxRecDepth 100000 in
theorem LebPadded_yes (n more : Int) (w : World) (n0 : 0 ≤ n) (n1 : n ≤ 18446744073709551615) (h0 : 1 ≤ more) (h1 : more ≤ 12) :
    Calls Try.prog 9 #[.int .u64 n, .int .i64 more] w fun e w' => e = .returned (.bool true) ∧ Below w.heap.size w w' := by
  go_enter Try.func9, Try.ntmps9
  go_wp2
  go_loopw [0, 5] (fun v0 v5 wr => ∃ (a : Int) (b : Nat), v0 = .int .u64 a ∧ v5 = .int .i64 b ∧ 0 ≤ a ∧ a ≤ 18446744073709551615 ∧ (b = 32 ∨ (b = 64 ∧ a ≤ 4294967295) ∨ b = 96) ∧ Aside0 (Below w.heap.size w wr)) (fun _ v5 _ => (96 - intOf v5).toNat)
  case atStart => exact ⟨n, 32, rfl, rfl, n0, n1, .inl rfl, ⟨Below.refl _ _⟩⟩
  case round =>
    obtain ⟨a, b, rfl, rfl, a0, a1, hb, HB⟩ := hrel
    by_cases hx : b = 96
    · subst hx
      clear hb
      go_wp2_with fail
      refine (known_calls _).mono ?_
      rintro e wk ⟨rfl, hbk⟩
      have BK := Aside0.mk hbk
      clear hbk
      go_wp2_with fail
      go_ret
      exact ⟨rfl, below_step HB.out BK.out⟩
    · have hb2 : b = 32 ∨ (b = 64 ∧ a ≤ 4294967295) := by omega
      clear hb hx
      rcases hb2 with rfl | ⟨rfl, ha⟩
      · obtain ⟨A, hA⟩ : ∃ A, a % 4294967296 = A := ⟨_, rfl⟩
        have A0 : 0 ≤ A := by omega
        have A1 : A ≤ 4294967295 := by omega
        go_upto_region 8 with (fail)
        go_wp2_with fail
        refine (PutU_calls (A) _ A0 (by omega)).mono ?_
        rintro e w1 ⟨v1, rfl, ho1, hb1⟩
        have HO := Aside0.mk (show w1.ownsRow wr.heap.size 5 1 v1 (U (A)).length (nums .u8 (U (A))) from Kd.own_of_R ho1)
        have B1 := Aside0.mk hb1
        clear ho1 hb1
        obtain ⟨hpos, h00, h01⟩ := last_U (n := (A)) A0 (by omega)
        have LU := U_length (A)
        obtain ⟨g, cap, rfl⟩ : ∃ g cap, v1 = .slice (some ⟨g, 0, none⟩) (U (A)).length cap := by
          rcases HO.out.2 with ⟨_, h⟩ | ⟨g, cap, cur, h, _⟩
          · omega
          · exact ⟨g, cap, h⟩
        have hz : ((((U (A)).length : Int)) == 0) = false := by rw [beq_eq_false_iff_ne]; omega
        obtain ⟨hcell, hfr⟩ := own_at HO.out (((U (A)).length - 1 : Nat) : Int) (by omega) (by omega)
        obtain ⟨hst, hgr⟩ := own_store HO.out (((U (A)).length - 1 : Nat) : Int) (rd (U (A)) (((U (A)).length - 1 : Nat) : Int) + 128)
        simp only [Int.toNat_natCast] at hcell hfr hst hgr
        have hlen : ((U (A)).set ((U (A)).length - 1) (rd (U (A)) (((U (A)).length - 1 : Nat) : Int) + 128)).length = (U (A)).length := List.length_set
        have hpad := Pad.of_U A0 (by omega) _ _ rfl rfl
        generalize hx : rd (U (A)) (((U (A)).length - 1 : Nat) : Int) = x at *
        clear hx
        have e2 := or128_u8 x h00 h01
        obtain ⟨y, hy⟩ : ∃ y, y = (U (A)).set ((U (A)).length - 1) (x + 128) := ⟨_, rfl⟩
        rw [← hy] at hlen hpad
        have HOY := Aside0.mk (show (w1.setCell ⟨g, (U (A)).length - 1, none⟩ (.int .u8 (x + 128))).ownsRow wr.heap.size 5 1 (.slice (some ⟨g, 0, none⟩) (U (A)).length cap) y.length (nums .u8 y) by rw [hlen, hy]; exact hst)
        have HGB := Aside0.mk (B1.out.grown hgr B1.out.size (fun k hk => by injection hk with hk; subst hk; exact own_base HO.out g rfl))
        have HL := Aside0.mk hlen
        have HP := Aside0.mk hpad
        clear hy hlen hpad hst hgr
        go_upto_region 12 with (fail)
        clear HO hcell hfr hz
        generalize w1.setCell ⟨g, (U (A)).length - 1, none⟩ (.int .u8 (x + 128)) = w2 at *
        go_wp2
        obtain ⟨wo, hwo⟩ : ∃ wo : World, wo = wr := ⟨_, rfl⟩
        rw [← hwo] at HB HOY HGB
        have HWO := Aside0.mk hwo
        clear hwo B1
        go_loopw [6, 7] (fun v6 v7 wi => ∃ (l : List Int) (i : Nat), v7 = .int .i64 i ∧ 1 ≤ i ∧ (i : Int) ≤ more ∧ Aside0 (l.length + 1 = (U (A)).length + i) ∧ Aside0 (Pad (A) l) ∧ Aside0 (wi.ownsRow wo.heap.size 5 1 v6 l.length (nums .u8 l)) ∧ Aside0 (Below wo.heap.size wo wi)) (fun _ v7 _ => (more - intOf v7).toNat)
        case atStart => exact ⟨y, 1, rfl, by omega, h0, ⟨by have := HL.out; omega⟩, HP, HOY, HGB⟩
        case round =>
          clear HOY HGB HL HP
          obtain ⟨l, i, rfl, i1, hi, HLE, HP, HO, HB2⟩ := hrel
          have l30 : l.length ≤ 30 := by have := HLE.out; omega
          by_cases hc : (i : Int) < more
          · go_wp2_with (first | ((with_reducible refine gate_builtin (b := .append) (xs := #[.tmp 44, .tmp 45]) rfl ?_); at_builtin; refine print_append_num (w0 := wo) wo.heap.size rfl (.tmp 44) (.tmp 45) 22 5 .u8 1 rfl Try.underlying22 infoB (by decide) _ l 128 rfl rfl HO.out HB2.out (below_size HB2.out) (by omega) ?_; intro v2 w2 ho hb hg hat; have HO2 := Aside0.mk ho; have HB3 := Aside0.mk hb; clear ho hb hg hat) | fail)
            go_roundw
            case rel => exact ⟨l ++ [128], i + 1, by go_num, by omega, by omega, ⟨by have := HLE.out; simp; omega⟩, ⟨HP.out.more⟩, HO2, HB3⟩
            case measure => simp [intOf]; omega
          · obtain rfl : more = (i : Int) := by omega
            clear hc
            go_upto_region 17 with (first | ((with_reducible refine gate_builtin (b := .append) (xs := #[.tmp 47, .tmp 48]) rfl ?_); at_builtin; refine print_append_num (w0 := wo) wo.heap.size rfl (.tmp 47) (.tmp 48) 22 5 .u8 1 rfl Try.underlying22 infoB (by decide) _ l 0 rfl rfl HO.out HB2.out (below_size HB2.out) (by omega) ?_; intro v3 w3 ho hb hg hat; have HO3 := Aside0.mk ho; have HB3 := Aside0.mk hb; clear ho hb hg hat) | fail)
            obtain ⟨m, hm⟩ : ∃ m, m = l ++ [0] := ⟨_, rfl⟩
            have HML := Aside0.mk (show m.length = l.length + 1 by rw [hm]; simp)
            have m31 : m.length ≤ 31 := by have := HML.out; omega
            have ho3 := HO3.out
            rw [← hm] at ho3
            obtain ⟨A2, c2, rfl, hr2⟩ := own_reads ho3
            have HR := Aside0.mk hr2
            have HBY := Aside0.mk (show ∀ y ∈ m, 0 ≤ y ∧ y ≤ 255 by rw [hm]; exact HP.out.bytes)
            clear ho3 hr2 HO3
            by_cases h5 : m.length ≤ 5
            · have HV := Aside0.mk (show readU m 0 32 = (A, (m.length : Int), 0) by
                have := HP.out.read 32 (by omega) (by omega) (by have := HML.out; omega)
                rw [← hm] at this
                have e : ((m.length : Nat) : Int) = (l.length : Int) + 1 := by have := HML.out; omega
                rw [e]; exact this)
              have HM := Aside0.mk hm
              clear hm
              go_wp2_with fail
              refine (U_val _ _ _ _ _ _ _ _ _ _ rfl (by omega) HR.out HBY.out HV.out).mono ?_
              rintro e1 w4 ⟨rfl, rfl⟩
              go_wp2
              go_roundw
              case rel => exact ⟨A, 64, rfl, rfl, by omega, by omega, .inr (.inl ⟨rfl, A1⟩), ⟨below_step HB.out HB3.out⟩⟩
              case measure => simp [intOf]
            · obtain ⟨r1, r2, r3, hv⟩ : ∃ r1 r2 r3, readU m 0 32 = (r1, r2, r3) := ⟨_, _, _, rfl⟩
              have h11 : r3 = 11 := by
                have := HP.out.long 32 (by omega) (by omega) (by have := HML.out; omega)
                rw [← hm] at this
                have h2 : (readU m 0 32).2.2 = r3 := by rw [hv]
                rw [← h2]; exact this
              subst h11
              have HV := Aside0.mk hv
              have HM := Aside0.mk hm
              clear hm hv
              go_wp2_with fail
              refine (U_val _ _ _ _ _ _ _ _ _ _ rfl (by omega) HR.out HBY.out HV.out).mono ?_
              rintro e1 w4 ⟨rfl, rfl⟩
              go_wp2
              go_roundw
              case rel => exact ⟨A, 64, rfl, rfl, by omega, by omega, .inr (.inl ⟨rfl, A1⟩), ⟨below_step HB.out HB3.out⟩⟩
              case measure => simp [intOf]
      · obtain ⟨A, hA⟩ : ∃ A, a = A := ⟨_, rfl⟩
        subst hA
        have A0 : 0 ≤ a := by omega
        have A1 : a ≤ 4294967295 := ha
        go_upto_region 8 with (fail)
        go_wp2_with fail
        refine (PutU_calls (a) _ A0 (by omega)).mono ?_
        rintro e w1 ⟨v1, rfl, ho1, hb1⟩
        have HO := Aside0.mk (show w1.ownsRow wr.heap.size 5 1 v1 (U (a)).length (nums .u8 (U (a))) from Kd.own_of_R ho1)
        have B1 := Aside0.mk hb1
        clear ho1 hb1
        obtain ⟨hpos, h00, h01⟩ := last_U (n := (a)) A0 (by omega)
        have LU := U_length (a)
        obtain ⟨g, cap, rfl⟩ : ∃ g cap, v1 = .slice (some ⟨g, 0, none⟩) (U (a)).length cap := by
          rcases HO.out.2 with ⟨_, h⟩ | ⟨g, cap, cur, h, _⟩
          · omega
          · exact ⟨g, cap, h⟩
        have hz : ((((U (a)).length : Int)) == 0) = false := by rw [beq_eq_false_iff_ne]; omega
        obtain ⟨hcell, hfr⟩ := own_at HO.out (((U (a)).length - 1 : Nat) : Int) (by omega) (by omega)
        obtain ⟨hst, hgr⟩ := own_store HO.out (((U (a)).length - 1 : Nat) : Int) (rd (U (a)) (((U (a)).length - 1 : Nat) : Int) + 128)
        simp only [Int.toNat_natCast] at hcell hfr hst hgr
        have hlen : ((U (a)).set ((U (a)).length - 1) (rd (U (a)) (((U (a)).length - 1 : Nat) : Int) + 128)).length = (U (a)).length := List.length_set
        have hpad := Pad.of_U A0 (by omega) _ _ rfl rfl
        generalize hx : rd (U (a)) (((U (a)).length - 1 : Nat) : Int) = x at *
        clear hx
        have e2 := or128_u8 x h00 h01
        obtain ⟨y, hy⟩ : ∃ y, y = (U (a)).set ((U (a)).length - 1) (x + 128) := ⟨_, rfl⟩
        rw [← hy] at hlen hpad
        have HOY := Aside0.mk (show (w1.setCell ⟨g, (U (a)).length - 1, none⟩ (.int .u8 (x + 128))).ownsRow wr.heap.size 5 1 (.slice (some ⟨g, 0, none⟩) (U (a)).length cap) y.length (nums .u8 y) by rw [hlen, hy]; exact hst)
        have HGB := Aside0.mk (B1.out.grown hgr B1.out.size (fun k hk => by injection hk with hk; subst hk; exact own_base HO.out g rfl))
        have HL := Aside0.mk hlen
        have HP := Aside0.mk hpad
        clear hy hlen hpad hst hgr
        go_upto_region 12 with (fail)
        clear HO hcell hfr hz
        generalize w1.setCell ⟨g, (U (a)).length - 1, none⟩ (.int .u8 (x + 128)) = w2 at *
        go_wp2
        obtain ⟨wo, hwo⟩ : ∃ wo : World, wo = wr := ⟨_, rfl⟩
        rw [← hwo] at HB HOY HGB
        have HWO := Aside0.mk hwo
        clear hwo B1
        go_loopw [6, 7] (fun v6 v7 wi => ∃ (l : List Int) (i : Nat), v7 = .int .i64 i ∧ 1 ≤ i ∧ (i : Int) ≤ more ∧ Aside0 (l.length + 1 = (U (a)).length + i) ∧ Aside0 (Pad (a) l) ∧ Aside0 (wi.ownsRow wo.heap.size 5 1 v6 l.length (nums .u8 l)) ∧ Aside0 (Below wo.heap.size wo wi)) (fun _ v7 _ => (more - intOf v7).toNat)
        case atStart => exact ⟨y, 1, rfl, by omega, h0, ⟨by have := HL.out; omega⟩, HP, HOY, HGB⟩
        case round =>
          clear HOY HGB HL HP
          obtain ⟨l, i, rfl, i1, hi, HLE, HP, HO, HB2⟩ := hrel
          have l30 : l.length ≤ 30 := by have := HLE.out; omega
          by_cases hc : (i : Int) < more
          · go_wp2_with (first | ((with_reducible refine gate_builtin (b := .append) (xs := #[.tmp 44, .tmp 45]) rfl ?_); at_builtin; refine print_append_num (w0 := wo) wo.heap.size rfl (.tmp 44) (.tmp 45) 22 5 .u8 1 rfl Try.underlying22 infoB (by decide) _ l 128 rfl rfl HO.out HB2.out (below_size HB2.out) (by omega) ?_; intro v2 w2 ho hb hg hat; have HO2 := Aside0.mk ho; have HB3 := Aside0.mk hb; clear ho hb hg hat) | fail)
            go_roundw
            case rel => exact ⟨l ++ [128], i + 1, by go_num, by omega, by omega, ⟨by have := HLE.out; simp; omega⟩, ⟨HP.out.more⟩, HO2, HB3⟩
            case measure => simp [intOf]; omega
          · obtain rfl : more = (i : Int) := by omega
            clear hc
            go_upto_region 17 with (first | ((with_reducible refine gate_builtin (b := .append) (xs := #[.tmp 47, .tmp 48]) rfl ?_); at_builtin; refine print_append_num (w0 := wo) wo.heap.size rfl (.tmp 47) (.tmp 48) 22 5 .u8 1 rfl Try.underlying22 infoB (by decide) _ l 0 rfl rfl HO.out HB2.out (below_size HB2.out) (by omega) ?_; intro v3 w3 ho hb hg hat; have HO3 := Aside0.mk ho; have HB3 := Aside0.mk hb; clear ho hb hg hat) | fail)
            obtain ⟨m, hm⟩ : ∃ m, m = l ++ [0] := ⟨_, rfl⟩
            have HML := Aside0.mk (show m.length = l.length + 1 by rw [hm]; simp)
            have m31 : m.length ≤ 31 := by have := HML.out; omega
            have ho3 := HO3.out
            rw [← hm] at ho3
            obtain ⟨A2, c2, rfl, hr2⟩ := own_reads ho3
            have HR := Aside0.mk hr2
            have HBY := Aside0.mk (show ∀ y ∈ m, 0 ≤ y ∧ y ≤ 255 by rw [hm]; exact HP.out.bytes)
            clear ho3 hr2 HO3
            by_cases h5 : m.length ≤ 10
            · have HV := Aside0.mk (show readU m 0 64 = (a, (m.length : Int), 0) by
                have := HP.out.read 64 (by omega) (by omega) (by have := HML.out; omega)
                rw [← hm] at this
                have e : ((m.length : Nat) : Int) = (l.length : Int) + 1 := by have := HML.out; omega
                rw [e]; exact this)
              have HM := Aside0.mk hm
              clear hm
              go_wp2_with fail
              refine (U_val _ _ _ _ _ _ _ _ _ _ rfl (by omega) HR.out HBY.out HV.out).mono ?_
              rintro e1 w4 ⟨rfl, rfl⟩
              go_wp2
              go_roundw
              case rel => exact ⟨a, 96, rfl, rfl, by omega, by omega, .inr (.inr rfl), ⟨below_step HB.out HB3.out⟩⟩
              case measure => simp [intOf]
            · obtain ⟨r1, r2, r3, hv⟩ : ∃ r1 r2 r3, readU m 0 64 = (r1, r2, r3) := ⟨_, _, _, rfl⟩
              have h11 : r3 = 11 := by
                have := HP.out.long 64 (by omega) (by omega) (by have := HML.out; omega)
                rw [← hm] at this
                have h2 : (readU m 0 64).2.2 = r3 := by rw [hv]
                rw [← h2]; exact this
              subst h11
              have HV := Aside0.mk hv
              have HM := Aside0.mk hm
              clear hm hv
              go_wp2_with fail
              refine (U_val _ _ _ _ _ _ _ _ _ _ rfl (by omega) HR.out HBY.out HV.out).mono ?_
              rintro e1 w4 ⟨rfl, rfl⟩
              go_wp2
              go_roundw
              case rel => exact ⟨a, 96, rfl, rfl, by omega, by omega, .inr (.inr rfl), ⟨below_step HB.out HB3.out⟩⟩
              case measure => simp [intOf]
theorem LebPadded_law (n more : Int) (w : World) (hn : (Lit.int .u64 n).wf = true) (_hm : (Lit.int .i64 more).wf = true) :
    Calls Try.prog 9 #[.int .u64 n, .int .i64 more] w fun e w' => e = .returned (.bool true) ∧ Below w.heap.size w w' := by
  by_cases h : 1 ≤ more ∧ more ≤ 12
  · exact LebPadded_yes n more w (wf_u64 hn).1 (wf_u64 hn).2 h.1 h.2
  · exact LebPadded_no n more w (by omega)
end Go.Proofs.Ythghmbfbjnedfaa.Leb
