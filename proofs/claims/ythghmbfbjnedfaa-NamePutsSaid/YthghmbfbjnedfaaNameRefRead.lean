/- Layer 2: the walks of the reference's Read and Put. -/
import Derived.Test.YthghmbfbjnedfaaNameRef
import Derived.Test.YthghmbfbjnedfaaNameRead
import Derived.Test.YthghmbfbjnedfaaLebRefRead
import Derived.Test.YthghmbfbjnedfaaLebRefPut
import Derived.Lib.AtoiErrMem
namespace Go.Proofs.Ythghmbfbjnedfaa.Nm
open Go.RowKit Go.Proofs.YthghmbfbjnedfaaW.PrintWords Go.Proofs.Ythghmbfbjnedfaa.BitsA Go.Proofs.Ythghmbfbjnedfaa.Lb Go.Proofs.Ythghmbfbjnedfaa.Leb
set_option maxHeartbeats 2000000 in
set_option maxRecDepth 100000 in
theorem refRead_val (A0 : Option Addr) (c0 n : Nat) (l : List Int) (at_ : Int) (w : World) (xs : List Int) (r2 r3 : Int) (hn : l.length = n) (hl : n ≤ 1000000) (hc : n ≤ c0) (hr : ReadsInt w .u8 A0 n l) (hby : ∀ x ∈ l, 0 ≤ x ∧ x ≤ 255) (hv : rdN l at_ = (xs, r2, r3)) :
    Calls Try.prog 31 #[.slice A0 n c0, .int .i64 at_] w fun e w' => e = .returned (.tuple #[.string (strOfNums xs), .int .i64 r2, .int .i64 r3]) ∧ Below w.heap.size w w' := by
  subst hn
  obtain ⟨ku, hku⟩ := refU_read l hby (by omega) at_ 32
  obtain ⟨N, X, E, hu⟩ : ∃ N X E, readU l at_ 32 = (N, X, E) := ⟨_, _, _, rfl⟩
  rw [hu] at hku
  by_cases ho : at_ < 0 ∨ (l.length : Int) < at_
  · have h2 := readU_out l at_ ho
    rw [rdN_err h2 (by decide)] at hv
    injection hv with e1 hv
    injection hv with e2 e3
    subst e1 e2 e3
    clear hu h2 hr hby hku
    go_enter Try.func31, Try.ntmps31
    rcases ho with ho | ho
    · go_wp2
      go_ret3
      exact ⟨rfl, Below.refl _ _⟩
    · have ho1 : ¬ at_ < 0 := by omega
      go_wp2
      go_ret3
      exact ⟨rfl, Below.refl _ _⟩
  have a0 : ¬ at_ < 0 := by omega
  have a1 : ¬ (l.length : Int) < at_ := by omega
  clear ho
  have HU := Aside0.mk hu
  have KU := Aside0.mk hku
  have HV := Aside0.mk hv
  have HR := Aside0.mk hr
  have HB := Aside0.mk hby
  have HC := Aside0.mk hc
  clear hu hv hr hby hc hku
  go_enter Try.func31, Try.ntmps31
  go_wp2_with fail
  refine (Go.Proofs.Ythghmbfbjnedfaa.PLebReads.geoderef01_U.calls ku _ _ l at_ 32 N X E _ (Kd.C_of_reads (d := (0 : Int)) (h1 := fun _ => rfl) HR.out) HC.out KU.out).mono ?_
  rintro e w1 ⟨rfl, hb1⟩
  have B1 := Aside0.mk hb1
  have HR1 := Aside0.mk (HR.out.below hb1)
  clear hb1 HR
  by_cases hE : E = 0
  · obtain ⟨N', X', hu', hN, hX, hX2, _⟩ := readU_ok l at_ HB.out (by rw [HU.out]; exact hE)
    have hh := HU.out
    rw [hu'] at hh
    injection hh with e1 hh
    injection hh with e2 e3
    subst e1 e2 hE
    by_cases hd : (l.length : Int) - X' < N'
    · have hv := HV.out
      rw [rdN_end hu' hd] at hv
      injection hv with e1 hv
      injection hv with e2 e3
      subst e1 e2 e3
      clear hu' e3
      have x1 : (0 : Int) ≤ (l.length : Int) - X' := by omega
      go_wp2
      go_ret3
      exact ⟨rfl, B1.out⟩
    · obtain ⟨iB, hiB, hzB⟩ := Option.map_eq_some_iff.1 infoB
      simp only [Prod.mk.injEq] at hzB
      obtain ⟨A', hsl, hrd, hcc⟩ := print_mid_int (P := Try.prog) (k := .u8) 22 5 Try.underlying22 hiB hzB.2.1 A0 c0 l X' (X' + N') (by omega) (by omega) (by omega) HC.out
      have hys0 : (l.take ((X' : Int) + N').toNat).drop (X' : Int).toNat = (l.drop X').take N' := by
        have e1 : ((X' : Int) + N').toNat = X' + N' := by omega
        have e2 : (X' : Int).toNat = X' := by omega
        rw [e1, e2, List.drop_take]
        congr 1
        omega
      rw [hys0] at hsl hrd hcc
      obtain ⟨ys, hys⟩ : ∃ ys, (l.drop X').take N' = ys := ⟨_, rfl⟩
      rw [hys] at hsl hrd hcc
      have hysb : ∀ x ∈ ys, 0 ≤ x ∧ x ≤ 255 := fun x hx => HB.out x (List.mem_of_mem_drop (List.mem_of_mem_take (hys ▸ hx)))
      have hysl : ys.length ≤ 1000000 := by rw [← hys, List.length_take, List.length_drop]; omega
      have hst := fun c => string_of_reads (c := c) (P := Try.prog) Try.underlying22 Try.underlying5 Try.underlying9 (hrd _ HR1.out)
      obtain ⟨S, hS⟩ : ∃ S, strOfNums ys = S := ⟨_, rfl⟩
      have hSs : S.size ≤ 1000000 := by rw [← hS, strOfNums_size]; exact hysl
      have hnb : nb S = ys.map Int.toNat := by rw [← hS]; exact nb_str ys hysb
      obtain ⟨r, hr⟩ : ∃ r, CI (nb S) = r := ⟨_, rfl⟩
      rw [hS] at hst
      have hN0 : (N' : Int) ≤ 1000000 := by omega
      clear hN
      have x1 : (0 : Int) ≤ (l.length : Int) - X' := by omega
      have hd2 : (N' : Int) ≤ (l.length : Int) - X' := by omega
      have HY := Aside0.mk hys
      have HS := Aside0.mk hS
      have HN := Aside0.mk hnb
      have HW := Aside0.mk hr
      have HU2 := Aside0.mk hu'
      clear hys hS hnb hr hrd hcc hys0 hysb hu' e3 hzB hiB HU
      go_wp2_with fail
      refine (refCount_val S r _ hSs HW.out).mono ?_
      rintro e w2 ⟨rfl, hb⟩
      have B := Aside0.mk (below_step B1.out hb)
      clear hb hst hsl
      have r0 : -1 ≤ r := by rw [← HW.out]; exact CI_ge _
      by_cases hr0 : r < 0
      · go_wp2
        go_ret3
        have hv := HV.out
        rw [rdN_name HU2.out (by omega) (by rw [HY.out, ← HN.out, HW.out]; exact hr0)] at hv
        injection hv with e1 hv
        injection hv with e2 e3
        subst e1 e2 e3
        exact ⟨rfl, B.out⟩
      · have hr1 : 0 ≤ r := by omega
        go_wp2
        go_ret3
        have hv := HV.out
        rw [rdN_ok HU2.out (by omega) (by rw [HY.out, ← HN.out, HW.out]; omega)] at hv
        injection hv with e1 hv
        injection hv with e2 e3
        subst e2 e3
        rw [HY.out] at e1
        subst e1
        rw [HS.out]
        exact ⟨rfl, B.out⟩
  · have hv := HV.out
    rw [rdN_err HU.out hE] at hv
    injection hv with e1 hv
    injection hv with e2 e3
    subst e1 e2 e3
    have hE2 : (E != 0) = true := bne_iff_ne.2 hE
    go_wp2
    go_ret3
    exact ⟨rfl, B1.out⟩
set_option maxHeartbeats 2000000 in
set_option maxRecDepth 100000 in
theorem refPut_val (s : ByteArray) (xs : List Int) (r : Int) (w : World) (hs : s.size ≤ 1000000) (hv : ptN s = (xs, r)) :
    Calls Try.prog 36 #[.string s] w fun e w' => ∃ v, e = .returned (.tuple #[v, .int .i64 r]) ∧ w'.ownsRow w.heap.size 5 1 v xs.length (nums .u8 xs) ∧ Below w.heap.size w w' := by
  obtain ⟨b, hb⟩ : ∃ b, CI (nb s) = b := ⟨_, rfl⟩
  go_enter Try.func36, Try.ntmps36
  have HV := Aside0.mk hv
  have HW := Aside0.mk hb
  have b0 : -1 ≤ b := by rw [← hb]; exact CI_ge _
  clear hv hb
  go_wp2_with fail
  refine (refCount_val s b _ hs HW.out).mono ?_
  rintro e w1 ⟨rfl, hb⟩
  have B := Aside0.mk hb
  clear hb
  by_cases hb0 : b < 0
  · go_wp2
    go_ret2
    have hv := HV.out
    unfold ptN at hv
    rw [if_pos (by rw [HW.out]; exact hb0)] at hv
    injection hv with e1 e2
    subst e1 e2
    exact ⟨_, rfl, own_nil _ _, B.out⟩
  · have hb1 : 0 ≤ b := by omega
    by_cases hz : (100000 : Int) < s.size
    · go_wp2
      go_ret2
      have hv := HV.out
      unfold ptN at hv
      rw [if_neg (by rw [HW.out]; omega), if_pos (by omega)] at hv
      injection hv with e1 e2
      subst e1 e2
      exact ⟨_, rfl, own_nil _ _, B.out⟩
    · go_wp2_with fail
      refine (refPutU_calls s.size _ (by omega) (by omega)).mono ?_
      rintro e w2 ⟨v2, rfl, ho, hb⟩
      have O2 := Aside0.mk (own_weaken (Kd.own_of_R ho) (below_size B.out))
      have B2 := Aside0.mk (below_step B.out hb)
      clear ho hb
      have hul := U_length s.size
      have kb := fun W => print_bytes (P := Try.prog) 9 22 5 Try.underlying9 Try.underlying22 Try.underlying5 s W
      have rb := bytes_reads w2 5 s (by omega)
      have RB := Aside0.mk rb
      have BB := Aside0.mk (Lib.bytesWorld_below w2 5 s)
      clear rb
      go_wp2_with ((with_reducible refine Go.Proofs.Ythghmbfbjnedfaa.Base.gate_builtin (b := .append) (xs := #[.tmp 13, .tmp 15]) rfl ?_); at_builtin; refine print_append_row (w0 := w) w.heap.size rfl (.tmp 13) (.tmp 15) 22 5 .u8 1 rfl Try.underlying22 infoB (by decide) v2 (U s.size) (bytesOf s) _ _ _ rfl rfl (pw_own_below O2.out BB.out) RB.out (below_step B2.out BB.out) (below_size (below_step B2.out BB.out)) (by omega) ?_; intro v3 w3 ho hb hg hat; have O3 := Aside0.mk ho; have B3 := Aside0.mk hb; clear ho hb hg hat)
      go_ret2
      have hv := HV.out
      unfold ptN at hv
      rw [if_neg (by rw [HW.out]; omega), if_neg (by omega)] at hv
      injection hv with e1 e2
      subst e1 e2
      exact ⟨_, rfl, O3.out, B3.out⟩
end Go.Proofs.Ythghmbfbjnedfaa.Nm
