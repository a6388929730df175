/- Layer 2: the walks of Read and Put. -/
import Derived.Test.YthghmbfbjnedfaaNameRSpec
import Derived.Test.YthghmbfbjnedfaaNameWalk
namespace Go.Proofs.Ythghmbfbjnedfaa.Nm
open Go.RowKit Go.Proofs.YthghmbfbjnedfaaW.PrintWords Go.Proofs.Ythghmbfbjnedfaa.BitsA Go.Proofs.Ythghmbfbjnedfaa.Lb Go.Proofs.Ythghmbfbjnedfaa.Leb
theorem own_nil (w : World) (base : Nat) : w.ownsRow base 5 1 (.slice none 0 0) ([] : List Int).length (nums .u8 []) := Kd.own_of_R (Kd.R_nil (Kd.int .u8) 5 w base (fun _ => True))
set_option maxHeartbeats 2000000 in
set_option maxRecDepth 100000 in
theorem Read_val (A0 : Option Addr) (c0 n : Nat) (l : List Int) (at_ : Int) (w : World) (xs : List Int) (r2 r3 : Int) (hn : l.length = n) (hl : n ≤ 1000000) (hc : n ≤ c0) (hr : ReadsInt w .u8 A0 n l) (hby : ∀ x ∈ l, 0 ≤ x ∧ x ≤ 255) (hv : rdN l at_ = (xs, r2, r3)) :
    Calls Try.prog 30 #[.slice A0 n c0, .int .i64 at_] w fun e w' => e = .returned (.tuple #[.string (strOfNums xs), .int .i64 r2, .int .i64 r3]) ∧ Below w.heap.size w w' := by
  subst hn
  obtain ⟨N, X, E, hu⟩ : ∃ N X E, readU l at_ 32 = (N, X, E) := ⟨_, _, _, rfl⟩
  by_cases ho : at_ < 0 ∨ (l.length : Int) < at_
  · have h2 := readU_out l at_ ho
    rw [rdN_err h2 (by decide)] at hv
    injection hv with e1 hv
    injection hv with e2 e3
    subst e1 e2 e3
    clear hu h2 hr hby
    go_enter Try.func30, Try.ntmps30
    rcases ho with ho | ho
    · go_wp2
      go_ret3
      exact ⟨rfl, Below.refl _ _⟩
    · have ho1 : ¬ at_ < 0 := by omega
      go_wp2
      go_ret3
      exact ⟨rfl, Below.refl _ _⟩
  have a0 : ¬ at_ < 0 := by omega
  have a1 : ¬ (l.length : Int) < at_ := by omega
  clear ho
  have HU := Aside0.mk hu
  have HV := Aside0.mk hv
  have HR := Aside0.mk hr
  have HB := Aside0.mk hby
  have HC := Aside0.mk hc
  clear hu hv hr hby hc
  go_enter Try.func30, Try.ntmps30
  go_wp2_with fail
  refine (U_val _ _ _ _ _ _ _ _ _ _ rfl (by omega) HR.out HB.out HU.out).mono ?_
  rintro e w1 ⟨rfl, rfl⟩
  by_cases hE : E = 0
  · obtain ⟨N', X', hu', hN, hX, hX2, _⟩ := readU_ok l at_ HB.out (by rw [HU.out]; exact hE)
    have hh := HU.out
    rw [hu'] at hh
    injection hh with e1 hh
    injection hh with e2 e3
    subst e1 e2 hE
    by_cases hd : (l.length : Int) - X' < N'
    · have hv := HV.out
      rw [rdN_end hu' hd] at hv
      injection hv with e1 hv
      injection hv with e2 e3
      subst e1 e2 e3
      clear hu' e3
      have x1 : (0 : Int) ≤ (l.length : Int) - X' := by omega
      go_wp2
      go_ret3
      exact ⟨rfl, Below.refl _ _⟩
    · obtain ⟨iB, hiB, hzB⟩ := Option.map_eq_some_iff.1 infoB
      simp only [Prod.mk.injEq] at hzB
      obtain ⟨A', hsl, hrd, hcc⟩ := print_mid_int (P := Try.prog) (k := .u8) 22 5 Try.underlying22 hiB hzB.2.1 A0 c0 l X' (X' + N') (by omega) (by omega) (by omega) HC.out
      have hys0 : (l.take ((X' : Int) + N').toNat).drop (X' : Int).toNat = (l.drop X').take N' := by
        have e1 : ((X' : Int) + N').toNat = X' + N' := by omega
        have e2 : (X' : Int).toNat = X' := by omega
        rw [e1, e2, List.drop_take]
        congr 1
        omega
      rw [hys0] at hsl hrd hcc
      obtain ⟨ys, hys⟩ : ∃ ys, (l.drop X').take N' = ys := ⟨_, rfl⟩
      rw [hys] at hsl hrd hcc
      have hysb : ∀ x ∈ ys, 0 ≤ x ∧ x ≤ 255 := fun x hx => HB.out x (List.mem_of_mem_drop (List.mem_of_mem_take (hys ▸ hx)))
      have hysl : ys.length ≤ 1000000 := by rw [← hys, List.length_take, List.length_drop]; omega
      have hst := fun c => string_of_reads (c := c) (P := Try.prog) Try.underlying22 Try.underlying5 Try.underlying9 (hrd _ HR.out)
      obtain ⟨S, hS⟩ : ∃ S, strOfNums ys = S := ⟨_, rfl⟩
      have hSs : S.size ≤ 1000000 := by rw [← hS, strOfNums_size]; exact hysl
      have hnb : nb S = ys.map Int.toNat := by rw [← hS]; exact nb_str ys hysb
      obtain ⟨r, hr⟩ : ∃ r, decide (0 ≤ CI (nb S)) = r := ⟨_, rfl⟩
      rw [hS] at hst
      have hN0 : (N' : Int) ≤ 1000000 := by omega
      clear hN
      have x1 : (0 : Int) ≤ (l.length : Int) - X' := by omega
      have hd2 : (N' : Int) ≤ (l.length : Int) - X' := by omega
      have HY := Aside0.mk hys
      have HS := Aside0.mk hS
      have HN := Aside0.mk hnb
      have HW := Aside0.mk hr
      have HU2 := Aside0.mk hu'
      clear hys hS hnb hr hrd hcc hys0 hysb hu' e3 hzB hiB HU
      go_wp2_with fail
      refine (Well_val S r _ hSs HW.out).mono ?_
      rintro e w1 ⟨rfl, hb⟩
      have B := Aside0.mk hb
      clear hb hst hsl
      cases r
      · go_wp2
        go_ret3
        have hv := HV.out
        rw [rdN_name HU2.out (by omega) (by rw [HY.out, ← HN.out]; have := of_decide_eq_false HW.out; omega)] at hv
        injection hv with e1 hv
        injection hv with e2 e3
        subst e1 e2 e3
        exact ⟨rfl, B.out⟩
      · go_wp2
        go_ret3
        have hv := HV.out
        rw [rdN_ok HU2.out (by omega) (by rw [HY.out, ← HN.out]; have := of_decide_eq_true HW.out; omega)] at hv
        injection hv with e1 hv
        injection hv with e2 e3
        subst e2 e3
        rw [HY.out] at e1
        subst e1
        rw [HS.out]
        exact ⟨rfl, B.out⟩
  · have hv := HV.out
    rw [rdN_err HU.out hE] at hv
    injection hv with e1 hv
    injection hv with e2 e3
    subst e1 e2 e3
    have hE2 : (E != 0) = true := bne_iff_ne.2 hE
    go_wp2
    go_ret3
    exact ⟨rfl, Below.refl _ _⟩
/-- A name's bytes, the error. -/
def ptN (s : ByteArray) : List Int × Int :=
  if CI (nb s) < 0 then ([], 20) else if 100000 < s.size then ([], 3) else (U s.size ++ bytesOf s, 0)
set_option maxHeartbeats 2000000 in
set_option maxRecDepth 100000 in
theorem Put_val (s : ByteArray) (xs : List Int) (r : Int) (w : World) (hs : s.size ≤ 1000000) (hv : ptN s = (xs, r)) :
    Calls Try.prog 35 #[.string s] w fun e w' => ∃ v, e = .returned (.tuple #[v, .int .i64 r]) ∧ w'.ownsRow w.heap.size 5 1 v xs.length (nums .u8 xs) ∧ Below w.heap.size w w' := by
  obtain ⟨b, hb⟩ : ∃ b, decide (0 ≤ CI (nb s)) = b := ⟨_, rfl⟩
  go_enter Try.func35, Try.ntmps35
  have HV := Aside0.mk hv
  have HW := Aside0.mk hb
  clear hv hb
  go_wp2_with fail
  refine (Well_val s b _ hs HW.out).mono ?_
  rintro e w1 ⟨rfl, hb⟩
  have B := Aside0.mk hb
  clear hb
  cases b
  · go_wp2
    go_ret2
    have hv := HV.out
    unfold ptN at hv
    rw [if_pos (by have := of_decide_eq_false HW.out; omega)] at hv
    injection hv with e1 e2
    subst e1 e2
    exact ⟨_, rfl, own_nil _ _, B.out⟩
  · by_cases hz : (100000 : Int) < s.size
    · go_wp2
      go_ret2
      have hv := HV.out
      unfold ptN at hv
      rw [if_neg (by have := of_decide_eq_true HW.out; omega), if_pos (by omega)] at hv
      injection hv with e1 e2
      subst e1 e2
      exact ⟨_, rfl, own_nil _ _, B.out⟩
    · go_wp2_with fail
      refine (PutU_calls s.size _ (by omega) (by omega)).mono ?_
      rintro e w2 ⟨v2, rfl, ho, hb⟩
      have O2 := Aside0.mk (own_weaken (Kd.own_of_R ho) (below_size B.out))
      have B2 := Aside0.mk (below_step B.out hb)
      clear ho hb
      have hul := U_length s.size
      go_wp2_with ((with_reducible refine Go.Proofs.Ythghmbfbjnedfaa.Base.gate_builtin (b := .append) (xs := #[.tmp 15, .tmp 16]) rfl ?_); at_builtin; refine print_append_str (w0 := w) w.heap.size rfl (.tmp 15) (.tmp 16) 22 9 5 rfl Try.underlying22 Try.underlying9 infoB v2 (U s.size) s rfl rfl O2.out B2.out (below_size B2.out) (by omega) ?_; intro v3 w3 ho hb hg; have O3 := Aside0.mk ho; have B3 := Aside0.mk hb; clear ho hb hg)
      go_ret2
      have hv := HV.out
      unfold ptN at hv
      rw [if_neg (by have := of_decide_eq_true HW.out; omega), if_neg (by omega)] at hv
      injection hv with e1 e2
      subst e1 e2
      exact ⟨_, rfl, O3.out, B3.out⟩
end Go.Proofs.Ythghmbfbjnedfaa.Nm
