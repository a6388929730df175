/- Layer 6: lists of value types are read. -/
import Derived.Test.YthghmbfbjnedfaaTbH
namespace Go.Proofs.Ythghmbfbjnedfaa.Tb
open Go Go.RowKit Go.Proofs.YthghmbfbjnedfaaW.PrintWords Go.Proofs.Ythghmbfbjnedfaa.Lb Go.Proofs.Ythghmbfbjnedfaa.Leb
set_option maxHeartbeats 8000000
set_option maxRecDepth 100000
def kVT : Kd VT := Kd.iso (Kd.pair (Kd.int .i64) (Kd.pair Kd.bool (Kd.pair (Kd.int .i64) (Kd.int .i64)))) (fun v => (v.kind, v.null, v.hk, v.hn))
theorem kVT_M (w : World) (base : Nat) (ok : Nat → Prop) (v : VT) : kVT.M w base ok v [.int .i64 v.kind, .bool v.null, .int .i64 v.hk, .int .i64 v.hn] :=
  ⟨[.int .i64 v.kind], [.bool v.null, .int .i64 v.hk, .int .i64 v.hn], rfl, rfl, ⟨[.bool v.null], [.int .i64 v.hk, .int .i64 v.hn], rfl, rfl, ⟨[.int .i64 v.hk], [.int .i64 v.hn], rfl, rfl, rfl⟩⟩⟩
theorem infoVT : (Try.prog.info? 69).map (fun i => (i.zero, i.size, i.bytes)) = some (some (.agg #[.int .i64 0, .bool false, .int .i64 0, .int .i64 0]), 4, 32) := by kernel_rfl
section
variable {w w1 W : World} {p : Nat} {A : Option Addr} {c : Nat} {l : List Int} {s : St} {rr : Option Nat}
theorem R_fr {α : Type} {d : Kd α} {e base : Nat} {ok : Nat → Prop} {v : Value} {xs : List α} (h : d.R e w base ok v xs) (hf : Fr w w1 p) (hp : p < base) : d.R e w1 base ok v xs :=
  Kd.R_mono (Kd.R_step (Kd.R_bound h) (fun k hk hlt => hf.block k hlt (fun e2 => by have := Option.some.inj e2; have := hk.2.1; omega))) (fun _ hk => hk.1)
theorem Fr.row (h : Fr w W p) (hg : W.grownBy w1 rr) (hr : ∀ k, rr = some k → w.heap.size ≤ k) : Fr w w1 p :=
  ⟨hg.os.trans h.os, hg.tape.trans h.tape, hg.output.trans h.output, Nat.le_trans h.size hg.size, fun i hi hne => (hg.block i (Nat.lt_of_lt_of_le hi h.size) (fun e => by have := hr i e.symm; omega)).trans (h.block i hi hne)⟩
theorem On.rowOut (h : On W p A c l s) (hg : W.grownBy w1 rr) {B : Nat} (hp : p < B) (ha : ∀ ad, A = some ad → 0 < l.length → ad.block < B) (hr : ∀ k, rr = some k → B ≤ k) : On w1 p A c l s := by
  refine ⟨(hg.block p h.lt (fun e => by have := hr p e.symm; omega)).trans h.row, ?_, h.apart, h.cap, h.lo, h.hi, h.u8, h.big⟩
  refine ⟨h.bytes.1, h.bytes.2.1, fun h0 => ?_⟩
  obtain ⟨ad, e, hc⟩ := h.bytes.2.2 h0
  refine ⟨ad, e, fun j hj => ?_⟩
  have hb : (ad.add j).block = ad.block := by unfold Addr.add; split <;> rfl
  exact World.grownBy.cell hg (hc j hj) (fun e2 => by have := hr _ e2.symm; have := ha ad e h0; omega)
end
/-- So many value types, one behind the other. -/
def valsF (l : List Int) : Nat → St → List VT → St × List VT
  | 0, s, acc => (s, acc)
  | k + 1, s, acc => if s.e = 0 then (if (valF l s).1.e = 0 then valsF l k (valF l s).1 (acc ++ [(valF l s).2]) else valsF l k (valF l s).1 acc) else valsF l k s acc
/-- A list whose reading met an error is none. -/
def okL (t : St) (acc : List VT) : List VT := if t.e = 0 then acc else []
theorem valsF_len (l : List Int) : ∀ (k : Nat) (s : St) (acc : List VT), (valsF l k s acc).2.length ≤ acc.length + k ∧ acc.length ≤ (valsF l k s acc).2.length
  | 0, s, acc => by simp [valsF]
  | k + 1, s, acc => by
    simp only [valsF]
    split
    · split
      · have := valsF_len l k (valF l s).1 (acc ++ [(valF l s).2])
        simp only [List.length_append, List.length_cons, List.length_nil] at this
        omega
      · have := valsF_len l k (valF l s).1 acc
        omega
    · have := valsF_len l k s acc
      omega
theorem list_Val_on (w : World) (p : Nat) (A : Option Addr) (c : Nat) (l : List Int) (s : St) (N : Nat) (h : On w p A c l s) (he : s.e = 0) (hN : (countF l s).2 = N) (hN2 : N ≤ 1000000) :
    Calls Try.prog 89 #[.pointer (some ⟨p, 0, none⟩), .func (.func 45) #[.pointer (some ⟨p, 0, none⟩)] #[]] w fun e w' => ∃ v, e = .returned v ∧
      Kd.R kVT 69 w' w.heap.size (fun _ => True) v (okL (valsF l N (countF l s).1 []).1 (valsF l N (countF l s).1 []).2) ∧ On w' p A c l (valsF l N (countF l s).1 []).1 ∧ Fr w w' p := by
  have X := A1.mk (Count_on w p A c l s h he)
  have hp := h.lt
  have AL := A1.mk h.away
  rw [hN] at X
  obtain ⟨s1, hs1⟩ : ∃ t, (countF l s).1 = t := ⟨_, rfl⟩
  rw [hs1] at X ⊢
  obtain ⟨RES, hRES⟩ : ∃ r, valsF l N s1 [] = r := ⟨_, rfl⟩
  rw [hRES]
  have HR := A1.mk hRES
  clear h he hs1 hRES hN
  go_enter Try.func89, Try.ntmps89
  go_wp2_with fail
  refine X.out.mono ?_
  rintro e w1 ⟨rfl, h1, f1⟩
  have H1 := A1.mk h1
  have F1 := A1.mk f1
  clear h1 f1 X
  go_wp2
  go_loopw [5, 9] (fun v5 v9 wr => ∃ (i : Nat) (t : St) (acc : List VT), v9 = .int .i64 i ∧ i ≤ N ∧ A1 (On wr p A c l t) ∧ A1 (Fr w wr p) ∧ A1 (Kd.R kVT 69 wr w.heap.size (fun _ => True) v5 acc) ∧ A1 (valsF l (N - i) t acc = RES) ∧ A1 (acc.length ≤ i)) (fun _ v9 _ => ((N : Int) - intOf v9).toNat)
  case atStart => exact ⟨0, s1, [], rfl, by omega, H1, F1, ⟨Kd.R_nil _ _ _ _ _⟩, ⟨by rw [Nat.sub_zero]; exact HR.out⟩, ⟨Nat.le_refl _⟩⟩
  case round =>
    obtain ⟨i, t, acc, rfl, hi, HO, HF, HK, HV, HL⟩ := hrel
    have hsr := HF.out.size
    by_cases hq : i < N
    · have qi : (i : Int) < N := by omega
      have hV := HV.out
      rw [show N - i = (N - (i + 1)) + 1 by omega] at hV
      simp only [valsF] at hV
      by_cases ht : t.e = 0
      · rw [if_pos ht] at hV
        have VO := A1.mk (Val_on wr p A c l t HO.out ht)
        obtain ⟨r, hr⟩ : ∃ r, valF l t = r := ⟨_, rfl⟩
        rw [hr] at hV VO
        clear hr
        obtain ⟨t2, v⟩ := r
        by_cases ht2 : t2.e = 0
        · have hV2 : valsF l (N - (i + 1)) t2 (acc ++ [v]) = RES := by rw [← hV]; exact (if_pos ht2).symm
          have HV2 := A1.mk hV2
          clear hV hV2 HV
          go_wp2_with fail
          refine VO.out.mono ?_
          rintro e w2 ⟨rfl, h2, f2⟩
          have H2 := A1.mk (h2.alloc (.cells #[.int .i64 v.kind, .bool v.null, .int .i64 v.hk, .int .i64 v.hn] 69))
          have F2 := A1.mk ((HF.out.trans f2).alloc (.cells #[.int .i64 v.kind, .bool v.null, .int .i64 v.hk, .int .i64 v.hn] 69))
          have K2 := A1.mk (Kd.R_below (R_fr HK.out f2 hp) (below_alloc (Below.refl _ _) (.cells #[.int .i64 v.kind, .bool v.null, .int .i64 v.hk, .int .i64 v.hn] 69)))
          have T2 := A1.mk (there_on _ p A c l t2 H2.out ht2)
          clear h2 f2
          unfold VT.cells
          go_wp2_with fail
          refine T2.out.mono ?_
          rintro e w3 ⟨rfl, rfl⟩
          go_wp2_with (first | ((with_reducible refine gateB (b := .append) (xs := #[.tmp 15, .tmp 17]) rfl ?_); at_builtin; refine Kd.R_append kVT (w0 := w2.alloc (.cells #[.int .i64 v.kind, .bool v.null, .int .i64 v.hk, .int .i64 v.hn] 69)) w.heap.size rfl (.tmp 15) (.tmp 17) 71 69 (.agg #[.int .i64 0, .bool false, .int .i64 0, .int .i64 0]) 32 rfl Try.underlying71 infoVT rfl (by decide) (by omega) _ acc v [.int .i64 v.kind, .bool v.null, .int .i64 v.hk, .int .i64 v.hn] (fun _ => True) (fun _ => False) rfl (show Value.slice (some ⟨w2.heap.size + 1, 0, none⟩) 1 1 = _ from congrArg (fun n => Value.slice (some ⟨n, 0, none⟩) 1 1) (by simp)) (kVT_M _ _ _ v) (fun _ hk => hk.elim) (fun _ _ => trivial) K2.out (Below.refl _ _) F2.out.size (by have := HL.out; omega) ?_; intro v4 w4 ho hb hg hat; have K4 := A1.mk ho; have G4 := A1.mk hg; clear ho hb hg hat) | fail)
          have hv5 : ∀ q, (u5 : Value).ownBlock = some q → w.heap.size ≤ q := by
            intro q hq2
            obtain ⟨inn, ho⟩ := Kd.R_own K2.out
            exact own_base ho q hq2
          have H4 := A1.mk (H2.out.rowOut G4.out hp AL.out hv5)
          have F4 := A1.mk (F2.out.row G4.out hv5)
          exact ⟨⟨i + 1, t2, acc ++ [v], by simp, by omega, H4, F4, K4, HV2, ⟨by have := HL.out; simp; omega⟩⟩, by simp [intOf]; omega⟩
        · have hV2 : valsF l (N - (i + 1)) t2 acc = RES := by rw [← hV]; exact (if_neg ht2).symm
          have HV2 := A1.mk hV2
          clear hV hV2 HV
          go_wp2_with fail
          refine VO.out.mono ?_
          rintro e w2 ⟨rfl, h2, f2⟩
          have H2 := A1.mk (h2.alloc (.cells #[.int .i64 v.kind, .bool v.null, .int .i64 v.hk, .int .i64 v.hn] 69))
          have F2 := A1.mk ((HF.out.trans f2).alloc (.cells #[.int .i64 v.kind, .bool v.null, .int .i64 v.hk, .int .i64 v.hn] 69))
          have K2 := A1.mk (Kd.R_below (R_fr HK.out f2 hp) (below_alloc (Below.refl _ _) (.cells #[.int .i64 v.kind, .bool v.null, .int .i64 v.hk, .int .i64 v.hn] 69)))
          have T2 := A1.mk (there_err _ p A c l t2 H2.out ht2)
          clear h2 f2
          unfold VT.cells
          go_wp2_with fail
          refine T2.out.mono ?_
          rintro e w3 ⟨rfl, rfl⟩
          go_wp2
          exact ⟨⟨i + 1, t2, acc, by simp, by omega, H2, F2, K2, HV2, ⟨by have := HL.out; omega⟩⟩, by simp [intOf]; omega⟩
      · have hV2 : valsF l (N - (i + 1)) t acc = RES := by rw [← hV]; exact (if_neg ht).symm
        have HV2 := A1.mk hV2
        have VO := A1.mk (Val_off wr _ (.err p A c l t HO.out ht))
        clear hV hV2 HV
        go_wp2_with fail
        refine VO.out.mono ?_
        rintro e w2 ⟨rfl, hb⟩
        have H2 := A1.mk ((HO.out.below hb).alloc (.cells #[.int .i64 0, .bool false, .int .i64 0, .int .i64 0] 69))
        have F2 := A1.mk ((HF.out.step hb).alloc (.cells #[.int .i64 0, .bool false, .int .i64 0, .int .i64 0] 69))
        have K2 := A1.mk (Kd.R_below (Kd.R_below HK.out hb) (below_alloc (Below.refl _ _) (.cells #[.int .i64 0, .bool false, .int .i64 0, .int .i64 0] 69)))
        have T2 := A1.mk (there_err _ p A c l t H2.out ht)
        clear hb
        go_wp2_with fail
        refine T2.out.mono ?_
        rintro e w3 ⟨rfl, rfl⟩
        go_wp2
        exact ⟨⟨i + 1, t, acc, by simp, by omega, H2, F2, K2, HV2, ⟨by have := HL.out; omega⟩⟩, by simp [intOf]; omega⟩
    · obtain rfl : i = N := by omega
      have hV : (t, acc) = RES := by
        have h := HV.out
        rw [Nat.sub_self] at h
        exact h
      subst hV
      clear HV HR
      by_cases ht : t.e = 0
      · have T := A1.mk (there_on _ p A c l t HO.out ht)
        have K2 : A1 (Kd.R kVT 69 wr w.heap.size (fun _ => True) u5 (okL t acc)) := ⟨by unfold okL; rw [if_pos ht]; exact HK.out⟩
        have X2 := A1.mk (And.intro K2.out (And.intro HO.out HF.out))
        clear K2 HO HF HK
        go_wp2_with fail
        refine T.out.mono ?_
        rintro e w3 ⟨rfl, rfl⟩
        go_wp2
        go_ret
        exact ⟨_, rfl, X2.out⟩
      · have T := A1.mk (there_err _ p A c l t HO.out ht)
        have K2 : A1 (Kd.R kVT 69 wr w.heap.size (fun _ => True) (.slice none 0 0) (okL t acc)) := ⟨by unfold okL; rw [if_neg ht]; exact Kd.R_nil _ _ _ _ _⟩
        have X2 := A1.mk (And.intro K2.out (And.intro HO.out HF.out))
        clear K2 HO HF HK
        go_wp2_with fail
        refine T.out.mono ?_
        rintro e w3 ⟨rfl, rfl⟩
        go_wp2
        go_ret
        exact ⟨_, rfl, X2.out⟩
/-- Vals' state and value. -/
def valsS (l : List Int) (s : St) : St × List VT := valsF l (countF l s).2.toNat (countF l s).1 []
theorem countF_nat (l : List Int) (s : St) (hu : ∀ x ∈ l, 0 ≤ x ∧ x ≤ 255) (hl : l.length ≤ 1000000) : (countF l s).2 = ((countF l s).2.toNat : Int) ∧ (countF l s).2.toNat ≤ 1000000 := by
  have key : 0 ≤ (countF l s).2 ∧ (countF l s).2 ≤ 1000000 := by
    unfold countF
    split
    · rename_i hc
      unfold cntF at hc ⊢
      by_cases h0 : (readU l s.pos 32).2.2 = 0
      · obtain ⟨n, nx, hr, hn, hp1, hp2, hp3⟩ := readU32 l s.pos hu h0
        rw [hr] at hc ⊢
        rw [if_neg (fun q => q rfl)] at hc ⊢
        by_cases hq : (l.length : Int) - ((n : Int), (nx : Int), (0 : Int)).2.1 < ((n : Int), (nx : Int), (0 : Int)).1
        · rw [if_pos hq] at hc; exact absurd hc (by decide)
        · rw [if_neg hq]
          show 0 ≤ (n : Int) ∧ (n : Int) ≤ 1000000
          have hq2 : ¬ ((l.length : Int) - nx < n) := hq
          omega
      · rw [if_pos h0] at hc; exact absurd hc h0
    · exact ⟨Int.le_refl 0, (by decide : (0 : Int) ≤ 1000000)⟩
  omega
theorem Vals_on (w : World) (p : Nat) (A : Option Addr) (c : Nat) (l : List Int) (s : St) (h : On w p A c l s) (he : s.e = 0) :
    Calls Try.prog 46 #[.pointer (some ⟨p, 0, none⟩)] w fun e w' => ∃ v, e = .returned v ∧
      Kd.R kVT 69 w' w.heap.size (fun _ => True) v (okL (valsS l s).1 (valsS l s).2) ∧ On w' p A c l (valsS l s).1 ∧ Fr w w' p := by
  obtain ⟨h1, h2⟩ := countF_nat l s h.u8 h.big
  have X := A1.mk (list_Val_on w p A c l s _ h he h1 h2)
  unfold valsS
  obtain ⟨r, hr⟩ : ∃ r, valsF l (countF l s).2.toNat (countF l s).1 [] = r := ⟨_, rfl⟩
  rw [hr] at X ⊢
  clear h he h1 h2 hr
  go_enter Try.func46, Try.ntmps46
  go_wp2_with fail
  refine X.out.mono ?_
  rintro e w1 ⟨v, rfl, hx⟩
  have Y := A1.mk hx
  clear hx
  go_wp2
  go_ret
  exact ⟨_, rfl, Y.out⟩
end Go.Proofs.Ythghmbfbjnedfaa.Tb
