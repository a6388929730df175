/- The law NameBack: its walk. -/
import Derived.Test.YthghmbfbjnedfaaNameJoins
import Derived.Test.YthghmbfbjnedfaaNameBackP
import Derived.Deep.CutBlock
namespace Go.Proofs.Ythghmbfbjnedfaa.Nm
open Go.RowKit Go.Proofs.YthghmbfbjnedfaaW.PrintWords Go.Proofs.Ythghmbfbjnedfaa.BitsA Go.Proofs.Ythghmbfbjnedfaa.Lb Go.Proofs.Ythghmbfbjnedfaa.Leb
theorem own_open {w : World} {base : Nat} {v : Value} {xs : List Int} (h : w.ownsRow base 5 1 v xs.length (nums .u8 xs)) : ∃ A c, v = .slice A xs.length c ∧ xs.length ≤ c ∧ ReadsInt w .u8 A xs.length xs :=
  bytes_open (Kd.R_of_own (enc := Value.int .u8) (h1 := fun _ => rfl) (ok := fun _ => True) h (fun _ _ => trivial))
set_option maxHeartbeats 2000000 in
set_option maxRecDepth 100000 in
theorem NameBack_law (s : ByteArray) (Aa : Option Addr) (ca : Nat) (la : List Int) (Ab : Option Addr) (cb : Nat) (lb : List Int) (w : World) (_hs : s.size ≤ 140737488351232)
    (hra : ReadsInt w .u8 Aa la.length la) (_hca : la.length ≤ ca) (hya : la.length * 1 ≤ 140737488351232) (hwa : ∀ x ∈ la, (Lit.int .u8 x).wf = true)
    (hrb : ReadsInt w .u8 Ab lb.length lb) (hcb : lb.length ≤ cb) (hyb : lb.length * 1 ≤ 140737488351232) (hwb : ∀ x ∈ lb, (Lit.int .u8 x).wf = true) :
    Calls Try.prog 14 #[.string s, .slice Aa la.length ca, .slice Ab lb.length cb] w fun e w' => e = .returned (.bool true) ∧ Below w.heap.size w w' := by
  have bya : ∀ x ∈ la, 0 ≤ x ∧ x ≤ 255 := fun x hx => wf_u8 (hwa x hx)
  have byb : ∀ x ∈ lb, 0 ≤ x ∧ x ≤ 255 := fun x hx => wf_u8 (hwb x hx)
  have YA := Aside0.mk bya
  have YB := Aside0.mk byb
  have RA0 := Aside0.mk hra
  have RB0 := Aside0.mk hrb
  have CB := Aside0.mk hcb
  clear bya byb hra hrb hcb _hca hwa hwb
  by_cases h1 : (2000 : Int) < s.size
  · go_enter Try.func14, Try.ntmps14
    go_wp2_with fail
    refine (known_calls _).mono ?_
    rintro e w1 ⟨rfl, hb⟩
    have B1 := Aside0.mk hb
    clear hb
    go_wp2
    go_ret
    exact ⟨rfl, B1.out⟩
  by_cases h2 : (200 : Int) < la.length
  · go_enter Try.func14, Try.ntmps14
    go_wp2_with fail
    refine (known_calls _).mono ?_
    rintro e w1 ⟨rfl, hb⟩
    have B1 := Aside0.mk hb
    clear hb
    go_wp2
    go_ret
    exact ⟨rfl, B1.out⟩
  by_cases h3 : (200 : Int) < lb.length
  · go_enter Try.func14, Try.ntmps14
    go_wp2_with fail
    refine (known_calls _).mono ?_
    rintro e w1 ⟨rfl, hb⟩
    have B1 := Aside0.mk hb
    clear hb
    go_wp2
    go_ret
    exact ⟨rfl, B1.out⟩
  have z1 : s.size ≤ 2000 := by omega
  have z2 : la.length ≤ 200 := by omega
  have z3 : lb.length ≤ 200 := by omega
  clear _hs hya hyb
  cases hw : wl (nb s)
  · have hp : ptN s = ([], 20) := by
      unfold ptN
      rw [if_pos (by have := of_decide_eq_false hw; omega)]
    have HW := Aside0.mk hw
    have HP := Aside0.mk hp
    clear hw hp
    go_enter Try.func14, Try.ntmps14
    go_wp2_with fail
    refine (known_calls _).mono ?_
    rintro e w1 ⟨rfl, hb⟩
    have B1 := Aside0.mk hb
    clear hb
    go_wp2_with fail
    refine (Put_val s [] 20 _ (by omega) HP.out).mono ?_
    rintro e w2 ⟨v2, rfl, ho, hb⟩
    obtain ⟨A2, k2, rfl, _, _⟩ := own_open ho
    have B2 := Aside0.mk (below_step B1.out hb)
    clear hb ho
    go_wp2_with fail
    refine (Well_wl s false _ (by omega) HW.out).mono ?_
    rintro e w3 ⟨rfl, hb⟩
    have B3 := Aside0.mk (below_step B2.out hb)
    clear hb
    go_wp2
    go_ret
    exact ⟨rfl, B3.out⟩
  have hp0 : ptN s = (U s.size ++ bytesOf s, 0) := by
    unfold ptN
    rw [if_neg (by have := of_decide_eq_true hw; omega), if_neg (by omega)]
  have hrd0 := rdN_put s la lb (by omega) hw
  have hby0 : ∀ x ∈ U s.size ++ bytesOf s, 0 ≤ x ∧ x ≤ 255 := bytes_app (U_bytes _) (bytesOf_byte s)
  have hll0 : (U s.size ++ bytesOf s).length ≤ 2010 := by
    have := U_length s.size
    rw [List.length_append, bytesOf_length]
    omega
  obtain ⟨L, hL⟩ : ∃ L, U s.size ++ bytesOf s = L := ⟨_, rfl⟩
  rw [hL] at hp0 hrd0 hby0 hll0
  obtain ⟨all, hall⟩ : ∃ all, all = (la ++ L) ++ lb := ⟨_, rfl⟩
  have hlen : all.length ≤ 1000000 := by rw [hall]; simp only [List.length_append]; omega
  have hbyall : ∀ x ∈ all, 0 ≤ x ∧ x ≤ 255 := by rw [hall]; exact bytes_app (bytes_app YA.out hby0) YB.out
  rw [← hall] at hrd0
  have HALL := Aside0.mk hall
  have HP := Aside0.mk hp0
  have HRD := Aside0.mk hrd0
  have YALL := Aside0.mk hbyall
  clear hL hall hp0 hrd0 hby0 hbyall hw
  obtain ⟨xs, k, g, hx⟩ : ∃ xs k g, rdN lb 0 = (xs, k, g) := ⟨_, _, _, rfl⟩
  have HX := Aside0.mk hx
  clear hx
  go_enter Try.func14, Try.ntmps14
  go_wp2_with fail
  refine (known_calls _).mono ?_
  rintro e w1 ⟨rfl, hb⟩
  have B1 := Aside0.mk hb
  clear hb
  go_wp2_with fail
  refine (Put_val s L 0 _ (by omega) HP.out).mono ?_
  rintro e w2 ⟨v2, rfl, ho, hb⟩
  obtain ⟨A2, k2, rfl, _, hr2⟩ := own_open ho
  have B2 := Aside0.mk (below_step B1.out hb)
  have R2 := Aside0.mk hr2
  have RA := Aside0.mk (RA0.out.below B2.out)
  have RB := Aside0.mk (RB0.out.below B2.out)
  clear hb ho hr2 RA0 RB0
  go_upto_region 9 with (first | ((with_reducible refine Go.Proofs.Ythghmbfbjnedfaa.Base.gate_builtin (b := .append) (xs := #[.tmp 52, .tmp 53]) rfl ?_); at_builtin; refine print_append_row (w0 := w2) w2.heap.size rfl (.tmp 52) (.tmp 53) 22 5 .u8 1 rfl Try.underlying22 infoB (by decide) _ ([]) (la) _ _ _ rfl rfl (own_empty w2) (RA.out.below (below_alloc (Below.refl _ _) _)) (below_alloc (Below.refl _ _) _) (below_size (below_alloc (Below.refl _ _) _)) (by simp; omega) ?_; intro v4 w4 ho hb hg hat; simp only [List.nil_append] at ho; have O4 := Aside0.mk ho; have B4 := Aside0.mk hb; clear ho hb hg hat) | ((with_reducible refine Go.Proofs.Ythghmbfbjnedfaa.Base.gate_builtin (b := .append) (xs := #[.tmp 54, .tmp 55]) rfl ?_); at_builtin; refine print_append_row (w0 := w2) w2.heap.size rfl (.tmp 54) (.tmp 55) 22 5 .u8 1 rfl Try.underlying22 infoB (by decide) v4 (la) (L) _ _ _ rfl rfl O4.out (R2.out.below B4.out) B4.out (below_size B4.out) (by simp; omega) ?_; intro v5 w5 ho hb hg hat; have O5 := Aside0.mk ho; have B5 := Aside0.mk hb; clear ho hb hg hat) | ((with_reducible refine Go.Proofs.Ythghmbfbjnedfaa.Base.gate_builtin (b := .append) (xs := #[.tmp 56, .tmp 57]) rfl ?_); at_builtin; refine print_append_row (w0 := w2) w2.heap.size rfl (.tmp 56) (.tmp 57) 22 5 .u8 1 rfl Try.underlying22 infoB (by decide) v5 (la ++ L) (lb) _ _ _ rfl rfl O5.out (RB.out.below B5.out) B5.out (below_size B5.out) (by simp; omega) ?_; intro v6 w6 ho hb hg hat; rw [← HALL.out] at ho; have O6 := Aside0.mk ho; have B6 := Aside0.mk hb; clear ho hb hg hat) | fail)
  obtain ⟨A6, k6, rfl, hk6, hr6⟩ := own_open O6.out
  have R6 := Aside0.mk hr6
  have K6 := Aside0.mk hk6
  have RB6 := Aside0.mk (RB.out.below B6.out)
  have BA := Aside0.mk (below_step B2.out B6.out)
  clear hr6 hk6 O6 O5 O4 B4 B5 B6
  go_wp2_with fail
  refine (Read_val A6 k6 _ all la.length _ (bytesOf s) _ 0 rfl (by omega) K6.out R6.out YALL.out HRD.out).mono ?_
  rintro e w7 ⟨rfl, hb⟩
  have B7 := Aside0.mk (below_step BA.out hb)
  have RB7 := Aside0.mk (RB6.out.below hb)
  clear hb
  rw [str_bytesOf]
  go_wp2_with fail
  refine (Read_val Ab cb _ lb 0 _ xs k g rfl (by omega) CB.out RB7.out YB.out HX.out).mono ?_
  rintro e w8 ⟨rfl, hb⟩
  have B8 := Aside0.mk (below_step B7.out hb)
  clear hb
  by_cases hg : g = 0
  · subst hg
    obtain ⟨q1, q2, q3⟩ := rdN_short lb YB.out (by omega) xs k HX.out
    obtain ⟨M, hM⟩ : ∃ M, U xs.length ++ xs = M := ⟨_, rfl⟩
    rw [hM] at q1 q2
    obtain ⟨X, hX⟩ : ∃ X, strOfNums xs = X := ⟨_, rfl⟩
    have hXs : X.size ≤ 1000000 := by rw [← hX, strOfNums_size]; omega
    rw [hX] at q1 ⊢
    have Q1 := Aside0.mk q1
    clear q1 hM hX q3
    go_wp2_with fail
    refine (Put_val X M 0 _ hXs Q1.out).mono ?_
    rintro e w9 ⟨v9, rfl, ho, hb⟩
    obtain ⟨A9, k9, rfl, _, _⟩ := own_open ho
    have B9 := Aside0.mk (below_step B8.out hb)
    clear hb ho
    have q4 : ¬ k < (M.length : Int) := by omega
    go_wp2
    go_ret
    exact ⟨rfl, B9.out⟩
  · have hg2 : (g == 0) = false := beq_eq_false_iff_ne.2 hg
    clear hg
    go_wp2
    go_ret
    exact ⟨rfl, B8.out⟩
end Go.Proofs.Ythghmbfbjnedfaa.Nm
