/- The Go functions leb.put (of both kinds of numbers), PutU, PutS, Len come to the plain functions of LebSpec. -/
import Derived.Test.YthghmbfbjnedfaaBase
import Derived.Test.YthghmbfbjnedfaaProg
import Derived.Test.YthghmbfbjnedfaaLebSpec
import Derived.Test.YthghmbfbjnedfaaBitsA
import Derived.WalkKit
import Derived.KernelRfl
import Derived.Deep.LoopGhost
import Derived.Laws.BitsLemmas
namespace Go.Proofs.Ythghmbfbjnedfaa.Leb
open Go.RowKit Go.Proofs.YthghmbfbjnedfaaW.PrintWords Go.Proofs.Ythghmbfbjnedfaa.Base Go.Proofs.Ythghmbfbjnedfaa.BitsA
theorem infoB : (Try.prog.info? 5).map (fun i => (i.zero, i.size, i.bytes)) = some (some (.int .u8 0), 1, 1) := by kernel_rfl
set_option maxHeartbeats 1000000 in
set_option maxRecDepth 100000 in
theorem putU_any (n : Int) (w : World) (h0 : 0 ≤ n) (h1 : n ≤ 18446744073709551615) :
    Calls Try.prog 66 #[.int .u64 n, .func (.func 67) #[] #[]] w fun e w' => ∃ v, e = .returned v ∧ Kd.R (Kd.int .u8) 5 w' w.heap.size (fun _ => True) v (Lb.U n) ∧ Below w.heap.size w w' := by
  go_enter Try.func66, Try.ntmps66
  go_wp2
  go_loopg [0, 5, 6] 10 (fun kq v0 v5 v6 w' => ∃ (m : Int) (acc : List Int), v0 = .int .u64 m ∧ Lb.inU kq m ∧ 0 ≤ m ∧ m ≤ 18446744073709551615 ∧ Aside0 (acc ++ Lb.putU kq m = Lb.U n) ∧ Aside0 (acc.length + kq = 10) ∧ Aside0 (Kd.R (Kd.int .u8) 5 w' w.heap.size (fun _ => True) v5 acc) ∧ Aside0 (Below w.heap.size w w'))
  case atStart => exact ⟨n, [], rfl, Lb.inU_start n h0 h1, h0, h1, ⟨rfl⟩, ⟨rfl⟩, ⟨Kd.R_nil _ _ _ _ _⟩, ⟨Below.refl _ _⟩⟩
  case round =>
    clear h0 h1
    obtain ⟨m, acc, rfl, HI0, hm0, hm1, HA, HL, HO, HB⟩ := hrel
    have HI := Aside0.mk HI0
    clear HI0
    cases gk with
    | zero => exact absurd HI.out (Lb.inU_zero m)
    | succ k1 =>
      have e1 := and127_u64 m hm0 hm1
      have e2 := or128_u8 (m % 128) (by omega) (by omega)
      have b0 : 0 ≤ m % 128 := by omega
      have b1 : m % 128 ≤ 127 := by omega
      by_cases hq : m / 128 = 0
      · have HE := Aside0.mk (show Lb.U n = acc ++ [m % 128] by rw [← HA.out, Lb.putU, if_pos hq])
        clear HA
        go_wp2_with (first | ((with_reducible refine gate_builtin (b := .append) (xs := #[.tmp 16, .tmp 18]) rfl ?_); at_builtin; refine Kd.R_append (Kd.int .u8) (w0 := w) w.heap.size rfl (.tmp 16) (.tmp 18) 22 5 (.int .u8 0) 1 rfl Try.underlying22 infoB rfl (by decide) (by omega) u5 acc (m % 128) [.int .u8 (m % 128)] (fun _ => True) (fun _ => False) rfl rfl ?aP (fun _ hk => hk.elim) ?aF ?aO ?aB ?aS ?aL ?_; (case aP => exact rfl); (case aF => exact (fun _ _ => trivial)); (case aO => exact HO.out); (case aB => exact HB.out); (case aS => exact (below_size HB.out)); (case aL => have := HL.out; omega); intro v1 w1 ho hb hg hat; have HO1 := Aside0.mk ho; have HB1 := Aside0.mk hb; clear HB HO ho hb hg hat) | go_in)
        go_ret
        exact ⟨_, rfl, by rw [HE.out]; exact HO1.out, HB1.out⟩
      · have HE := Aside0.mk (show (acc ++ [m % 128 + 128]) ++ Lb.putU k1 (m / 128) = Lb.U n by rw [← HA.out, Lb.putU, if_neg hq]; simp)
        have HJ := Aside0.mk (Lb.inU_next k1 m HI.out hq)
        clear HA HI
        go_wp2_with (first | ((with_reducible refine gate_builtin (b := .append) (xs := #[.tmp 20, .tmp 23]) rfl ?_); at_builtin; refine Kd.R_append (Kd.int .u8) (w0 := w) w.heap.size rfl (.tmp 20) (.tmp 23) 22 5 (.int .u8 0) 1 rfl Try.underlying22 infoB rfl (by decide) (by omega) u5 acc (m % 128 + 128) [.int .u8 (m % 128 + 128)] (fun _ => True) (fun _ => False) rfl rfl ?aP (fun _ hk => hk.elim) ?aF ?aO ?aB ?aS ?aL ?_; (case aP => exact rfl); (case aF => exact (fun _ _ => trivial)); (case aO => exact HO.out); (case aB => exact HB.out); (case aS => exact (below_size HB.out)); (case aL => have := HL.out; omega); intro v1 w1 ho hb hg hat; have HO1 := Aside0.mk ho; have HB1 := Aside0.mk hb; clear HB HO ho hb hg hat) | go_in)
        go_roundg k1
        case measure => omega
        case rel => exact ⟨m / 128, acc ++ [m % 128 + 128], (by first | rfl | rw [q1] | rw [q3]), HJ.out, by omega, by omega, HE, ⟨by have := HL.out; simp; omega⟩, HO1, HB1⟩
set_option maxHeartbeats 1000000 in
set_option maxRecDepth 100000 in
theorem putS_any (n : Int) (w : World) (h0 : -9223372036854775808 ≤ n) (h1 : n ≤ 9223372036854775807) :
    Calls Try.prog 68 #[.int .i64 n, .func (.func 69) #[] #[]] w fun e w' => ∃ v, e = .returned v ∧ Kd.R (Kd.int .u8) 5 w' w.heap.size (fun _ => True) v (Lb.S n) ∧ Below w.heap.size w w' := by
  go_enter Try.func68, Try.ntmps68
  go_wp2
  go_loopg [0, 5, 6] 10 (fun kq v0 v5 v6 w' => ∃ (m : Int) (acc : List Int), v0 = .int .i64 m ∧ Lb.inS kq m ∧ -9223372036854775808 ≤ m ∧ m ≤ 9223372036854775807 ∧ Aside0 (acc ++ Lb.putS kq m = Lb.S n) ∧ Aside0 (acc.length + kq = 10) ∧ Aside0 (Kd.R (Kd.int .u8) 5 w' w.heap.size (fun _ => True) v5 acc) ∧ Aside0 (Below w.heap.size w w'))
  case atStart => exact ⟨n, [], rfl, Lb.inS_start n h0 h1, h0, h1, ⟨rfl⟩, ⟨rfl⟩, ⟨Kd.R_nil _ _ _ _ _⟩, ⟨Below.refl _ _⟩⟩
  case round =>
    clear h0 h1
    obtain ⟨m, acc, rfl, HI0, hm0, hm1, HA, HL, HO, HB⟩ := hrel
    have HI := Aside0.mk HI0
    clear HI0
    cases gk with
    | zero => exact absurd HI.out (Lb.inS_zero m)
    | succ k1 =>
      have e1 := and127_i64 m
      have e2 := or128_u8 (m % 128) (by omega) (by omega)
      have b0 : 0 ≤ m % 128 := by omega
      have b1 : m % 128 ≤ 127 := by omega
      by_cases hq : m / 128 = 0 ∧ m % 128 < 64 ∨ m / 128 = -1 ∧ 64 ≤ m % 128
      · have HE := Aside0.mk (show Lb.S n = acc ++ [m % 128] by rw [← HA.out, Lb.putS, if_pos hq])
        clear HA
        rcases hq with ⟨q1, q2⟩ | ⟨q1, q2⟩
        · go_wp2_with (first | ((with_reducible refine gate_builtin (b := .append) (xs := #[.tmp 16, .tmp 18]) rfl ?_); at_builtin; refine Kd.R_append (Kd.int .u8) (w0 := w) w.heap.size rfl (.tmp 16) (.tmp 18) 22 5 (.int .u8 0) 1 rfl Try.underlying22 infoB rfl (by decide) (by omega) u5 acc (m % 128) [.int .u8 (m % 128)] (fun _ => True) (fun _ => False) rfl rfl ?aP (fun _ hk => hk.elim) ?aF ?aO ?aB ?aS ?aL ?_; (case aP => exact rfl); (case aF => exact (fun _ _ => trivial)); (case aO => exact HO.out); (case aB => exact HB.out); (case aS => exact (below_size HB.out)); (case aL => have := HL.out; omega); intro v1 w1 ho hb hg hat; have HO1 := Aside0.mk ho; have HB1 := Aside0.mk hb; clear HB HO ho hb hg hat) | go_in)
          go_ret
          exact ⟨_, rfl, by rw [HE.out]; exact HO1.out, HB1.out⟩
        · go_wp2_with (first | ((with_reducible refine gate_builtin (b := .append) (xs := #[.tmp 16, .tmp 18]) rfl ?_); at_builtin; refine Kd.R_append (Kd.int .u8) (w0 := w) w.heap.size rfl (.tmp 16) (.tmp 18) 22 5 (.int .u8 0) 1 rfl Try.underlying22 infoB rfl (by decide) (by omega) u5 acc (m % 128) [.int .u8 (m % 128)] (fun _ => True) (fun _ => False) rfl rfl ?aP (fun _ hk => hk.elim) ?aF ?aO ?aB ?aS ?aL ?_; (case aP => exact rfl); (case aF => exact (fun _ _ => trivial)); (case aO => exact HO.out); (case aB => exact HB.out); (case aS => exact (below_size HB.out)); (case aL => have := HL.out; omega); intro v1 w1 ho hb hg hat; have HO1 := Aside0.mk ho; have HB1 := Aside0.mk hb; clear HB HO ho hb hg hat) | go_in)
          go_ret
          exact ⟨_, rfl, by rw [HE.out]; exact HO1.out, HB1.out⟩
      · have HE := Aside0.mk (show (acc ++ [m % 128 + 128]) ++ Lb.putS k1 (m / 128) = Lb.S n by rw [← HA.out, Lb.putS, if_neg hq]; simp)
        have HJ := Aside0.mk (Lb.inS_next k1 m HI.out hq)
        clear HA HI
        by_cases q1 : m / 128 = 0
        · have q2 : 64 ≤ m % 128 := by omega
          clear hq
          go_wp2_with (first | ((with_reducible refine gate_builtin (b := .append) (xs := #[.tmp 20, .tmp 23]) rfl ?_); at_builtin; refine Kd.R_append (Kd.int .u8) (w0 := w) w.heap.size rfl (.tmp 20) (.tmp 23) 22 5 (.int .u8 0) 1 rfl Try.underlying22 infoB rfl (by decide) (by omega) u5 acc (m % 128 + 128) [.int .u8 (m % 128 + 128)] (fun _ => True) (fun _ => False) rfl rfl ?aP (fun _ hk => hk.elim) ?aF ?aO ?aB ?aS ?aL ?_; (case aP => exact rfl); (case aF => exact (fun _ _ => trivial)); (case aO => exact HO.out); (case aB => exact HB.out); (case aS => exact (below_size HB.out)); (case aL => have := HL.out; omega); intro v1 w1 ho hb hg hat; have HO1 := Aside0.mk ho; have HB1 := Aside0.mk hb; clear HB HO ho hb hg hat) | go_in)
          go_roundg k1
          case measure => omega
          case rel => exact ⟨m / 128, acc ++ [m % 128 + 128], (by first | rfl | rw [q1] | rw [q3]), HJ.out, by omega, by omega, HE, ⟨by have := HL.out; simp; omega⟩, HO1, HB1⟩
        · by_cases q3 : m / 128 = -1
          · have q2 : m % 128 < 64 := by omega
            clear hq
            go_wp2_with (first | ((with_reducible refine gate_builtin (b := .append) (xs := #[.tmp 20, .tmp 23]) rfl ?_); at_builtin; refine Kd.R_append (Kd.int .u8) (w0 := w) w.heap.size rfl (.tmp 20) (.tmp 23) 22 5 (.int .u8 0) 1 rfl Try.underlying22 infoB rfl (by decide) (by omega) u5 acc (m % 128 + 128) [.int .u8 (m % 128 + 128)] (fun _ => True) (fun _ => False) rfl rfl ?aP (fun _ hk => hk.elim) ?aF ?aO ?aB ?aS ?aL ?_; (case aP => exact rfl); (case aF => exact (fun _ _ => trivial)); (case aO => exact HO.out); (case aB => exact HB.out); (case aS => exact (below_size HB.out)); (case aL => have := HL.out; omega); intro v1 w1 ho hb hg hat; have HO1 := Aside0.mk ho; have HB1 := Aside0.mk hb; clear HB HO ho hb hg hat) | go_in)
            go_roundg k1
            case measure => omega
            case rel => exact ⟨m / 128, acc ++ [m % 128 + 128], (by first | rfl | rw [q1] | rw [q3]), HJ.out, by omega, by omega, HE, ⟨by have := HL.out; simp; omega⟩, HO1, HB1⟩
          · clear hq
            go_wp2_with (first | ((with_reducible refine gate_builtin (b := .append) (xs := #[.tmp 20, .tmp 23]) rfl ?_); at_builtin; refine Kd.R_append (Kd.int .u8) (w0 := w) w.heap.size rfl (.tmp 20) (.tmp 23) 22 5 (.int .u8 0) 1 rfl Try.underlying22 infoB rfl (by decide) (by omega) u5 acc (m % 128 + 128) [.int .u8 (m % 128 + 128)] (fun _ => True) (fun _ => False) rfl rfl ?aP (fun _ hk => hk.elim) ?aF ?aO ?aB ?aS ?aL ?_; (case aP => exact rfl); (case aF => exact (fun _ _ => trivial)); (case aO => exact HO.out); (case aB => exact HB.out); (case aS => exact (below_size HB.out)); (case aL => have := HL.out; omega); intro v1 w1 ho hb hg hat; have HO1 := Aside0.mk ho; have HB1 := Aside0.mk hb; clear HB HO ho hb hg hat) | go_in)
            go_roundg k1
            case measure => omega
            case rel => exact ⟨m / 128, acc ++ [m % 128 + 128], (by first | rfl | rw [q1] | rw [q3]), HJ.out, by omega, by omega, HE, ⟨by have := HL.out; simp; omega⟩, HO1, HB1⟩
theorem PutU_calls (n : Int) (w : World) (h0 : 0 ≤ n) (h1 : n ≤ 18446744073709551615) :
    Calls Try.prog 24 #[.int .u64 n] w fun e w' => ∃ v, e = .returned v ∧ Kd.R (Kd.int .u8) 5 w' w.heap.size (fun _ => True) v (Lb.U n) ∧ Below w.heap.size w w' := by
  go_enter Try.func24, Try.ntmps24
  go_wp2_with (go_at_call 66; refine (putU_any n _ h0 h1).mono ?_; rintro e w1 ⟨v, rfl, ho, hb⟩; have HO := Aside0.mk ho; have HB := Aside0.mk hb; clear ho hb)
  go_ret
  exact ⟨_, rfl, HO.out, HB.out⟩
theorem PutS_calls (n : Int) (w : World) (h0 : -9223372036854775808 ≤ n) (h1 : n ≤ 9223372036854775807) :
    Calls Try.prog 26 #[.int .i64 n] w fun e w' => ∃ v, e = .returned v ∧ Kd.R (Kd.int .u8) 5 w' w.heap.size (fun _ => True) v (Lb.S n) ∧ Below w.heap.size w w' := by
  go_enter Try.func26, Try.ntmps26
  go_wp2_with (go_at_call 68; refine (putS_any n _ h0 h1).mono ?_; rintro e w1 ⟨v, rfl, ho, hb⟩; have HO := Aside0.mk ho; have HB := Aside0.mk hb; clear ho hb)
  go_ret
  exact ⟨_, rfl, HO.out, HB.out⟩
theorem Len_calls (n : Int) (w : World) (h0 : 0 ≤ n) (h1 : n ≤ 18446744073709551615) :
    Calls Try.prog 28 #[.int .u64 n] w fun e w' => e = .returned (.int .i64 (Lb.U n).length) ∧ Below w.heap.size w w' := by
  go_enter Try.func28, Try.ntmps28
  go_wp2_with (go_at_call 24; refine (PutU_calls n _ h0 h1).mono ?_; rintro e w1 ⟨v, rfl, ho, hb⟩; obtain ⟨A, c, rfl⟩ := Kd.R_slice ho; have HB := Aside0.mk hb; clear ho hb)
  go_ret
  exact ⟨rfl, HB.out⟩
end Go.Proofs.Ythghmbfbjnedfaa.Leb
