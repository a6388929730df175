/- The law LebCut: its walk. -/
import Derived.Test.YthghmbfbjnedfaaLebLawA
import Derived.Deep.CutBlock
namespace Go.Proofs.Ythghmbfbjnedfaa.Leb
open Go.RowKit Go.Proofs.YthghmbfbjnedfaaW.PrintWords Go.Proofs.Ythghmbfbjnedfaa.Base Go.Proofs.Ythghmbfbjnedfaa.BitsA Go.Proofs.Ythghmbfbjnedfaa.Lb
/-- The bytes of a number, perhaps more than it needs: all but the last one go on. -/
def Num (n : Int) (l : List Int) : Prop := ∃ c x, l = c ++ [x] ∧ (∀ y ∈ c, 128 ≤ y ∧ y ≤ 255) ∧ 0 ≤ x ∧ x < 128 ∧ val (c ++ [x]) = n
theorem Num.of_U {n : Int} (h0 : 0 ≤ n) (h1 : n ≤ 18446744073709551615) : Num n (U n) := by
  obtain ⟨c, x, e, hc, hx0, hx1, hv, _⟩ := U_enc n h0 h1
  exact ⟨c, x, e, hc, hx0, hx1, hv⟩
theorem Num.bytes {n : Int} {l : List Int} (h : Num n l) : ∀ x ∈ l, 0 ≤ x ∧ x ≤ 255 := by
  obtain ⟨c, x, rfl, hc, hx0, hx1, _⟩ := h
  intro y hy
  rcases List.mem_append.1 hy with hy | hy
  · have := hc y hy; omega
  · simp at hy; omega
theorem Num.pos {n : Int} {l : List Int} (h : Num n l) : 0 < l.length := by
  obtain ⟨c, x, rfl, _⟩ := h; simp
theorem Num.last {n : Int} {l : List Int} (h : Num n l) : 0 ≤ rd l (((l.length - 1 : Nat) : Int)) ∧ rd l (((l.length - 1 : Nat) : Int)) < 128 := by
  obtain ⟨c, x, rfl, hc, hx0, hx1, _⟩ := h
  have := rd_at c x []
  simp only [List.length_append, List.length_singleton, Nat.add_sub_cancel]
  rw [this]; exact ⟨hx0, hx1⟩
theorem Num.more {n : Int} {l : List Int} (h : Num n l) (y : Int) (hy : y = rd l (((l.length - 1 : Nat) : Int)) + 128) : Num n (l.set (l.length - 1) y ++ [0]) := by
  obtain ⟨c, x, rfl, hc, hx0, hx1, hv⟩ := h
  have hr := rd_at c x []
  simp only [List.length_append, List.length_singleton, Nat.add_sub_cancel] at hy ⊢
  rw [hr] at hy
  subst hy
  refine ⟨c ++ [x + 128], 0, by simp, ?_, by omega, by omega, ?_⟩
  · intro z hz
    rcases List.mem_append.1 hz with hz | hz
    · exact hc z hz
    · simp at hz; omega
  · rw [val_append, val_append]
    rw [val_append] at hv
    have : (x + 128) % 128 = x % 128 := by omega
    rw [this]; omega
theorem Num.read {n : Int} {l : List Int} (h : Num n l) (hl : l.length ≤ 10) (hn : n ≤ 18446744073709551615) : readU l 0 64 = (n, (l.length : Int), 0) := by
  obtain ⟨c, x, rfl, hc, hx0, hx1, hv⟩ := h
  have hl' : c.length ≤ 9 := by simp at hl; omega
  have hx : x < 2 ^ (64 - 7 * c.length) := by
    rw [val_append] at hv
    have ex : x % 128 = x := by omega
    rw [ex, pow_7] at hv
    have hp := val_nonneg c
    have hlt : 2 ^ (7 * c.length) * x < 2 ^ 64 := by
      have e64 : (2 : Int) ^ 64 = 18446744073709551616 := by decide
      omega
    have ee : 7 * c.length + (64 - 7 * c.length) = 64 := by omega
    rw [← ee, Int.pow_add] at hlt
    exact Int.lt_of_mul_lt_mul_left hlt (Int.le_of_lt (two_pow_pos _))
  have := readU_enc 64 c x [] [] hc hx0 hx1 (by omega) (by omega) hx
  rw [hv] at this
  simpa using this
theorem Num.cut {n : Int} {l : List Int} (h : Num n l) (hl : l.length ≤ 10) : readU (l.take (l.length - 1)) 0 64 = (0, 0, 10) := by
  obtain ⟨c, x, rfl, hc, hx0, hx1, hv⟩ := h
  have hl' : c.length ≤ 9 := by simp at hl; omega
  have e : (c ++ [x]).take ((c ++ [x]).length - 1) = c := by simp
  rw [e]
  unfold readU readF
  rw [if_pos ⟨by omega, by omega, by omega, by omega⟩]
  exact rdL_cut 64 false c [] 10 0 0 hc (by omega) (by omega)
set_option maxHeartbeats 1000000 in
set_option maxRecDepth 100000 in
theorem LebCut_no (n more : Int) (w : World) (h : more < 0 ∨ 9 < more) :
    Calls Try.prog 7 #[.int .u64 n, .int .i64 more] w fun e w' => e = .returned (.bool true) ∧ Below w.heap.size w w' := by
  have hs : more < 0 ∨ (0 ≤ more ∧ 9 < more) := by omega
  clear h
  go_enter Try.func7, Try.ntmps7
  go_wp2_with fail
  refine (known_calls _).mono ?_
  rintro e wk ⟨rfl, hbk⟩
  have BK := Aside0.mk hbk
  clear hbk
  rcases hs with h1 | ⟨h1, h2⟩
  all_goals
    go_wp2_with fail
    go_ret
    exact ⟨rfl, BK.out⟩
set_option maxHeartbeats 2000000 in
set_option maxRecDepth 100000 in
theorem LebCut_yes (n more : Int) (w : World) (n0 : 0 ≤ n) (n1 : n ≤ 18446744073709551615) (h0 : 0 ≤ more) (h1 : more ≤ 9) :
    Calls Try.prog 7 #[.int .u64 n, .int .i64 more] w fun e w' => e = .returned (.bool true) ∧ Below w.heap.size w w' := by
  have HN0 := Aside0.mk (Num.of_U n0 n1)
  have L0 := U_length n
  go_enter Try.func7, Try.ntmps7
  go_wp2_with fail
  refine (known_calls _).mono ?_
  rintro e wk ⟨rfl, hbk⟩
  have BK := Aside0.mk hbk
  clear hbk
  go_wp2_with fail
  refine (PutU_calls _ _ n0 n1).mono ?_
  rintro e w1 ⟨v1, rfl, ho1, hb1⟩
  have O1 := Aside0.mk (show w1.ownsRow wk.heap.size 5 1 v1 (U n).length (nums .u8 (U n)) from Kd.own_of_R ho1)
  have B1 := Aside0.mk hb1
  clear ho1 hb1
  go_wp2
  go_loopw [5, 6] (fun v5 v6 wr => ∃ (l : List Int) (i : Nat), v6 = .int .i64 i ∧ (i : Int) ≤ more ∧ l.length ≤ 10 ∧ Aside0 (Num n l) ∧ Aside0 (wr.ownsRow wk.heap.size 5 1 v5 l.length (nums .u8 l)) ∧ Aside0 (Below wk.heap.size wk wr)) (fun _ v6 _ => (more - intOf v6).toNat)
  case atStart => exact ⟨U n, 0, rfl, h0, L0, HN0, O1, B1⟩
  case round =>
    clear O1 B1 HN0 L0
    obtain ⟨l, i, rfl, hi, hl, HN, HO, HB⟩ := hrel
    have hpos := HN.out.pos
    obtain ⟨h00, h01⟩ := HN.out.last
    obtain ⟨g, cap, rfl⟩ : ∃ g cap, u5 = .slice (some ⟨g, 0, none⟩) l.length cap := by
      rcases HO.out.2 with ⟨_, h⟩ | ⟨g, cap, cur, h, _⟩
      · omega
      · exact ⟨g, cap, h⟩
    obtain ⟨hcell, hfr⟩ := own_at HO.out ((l.length - 1 : Nat) : Int) (by omega) (by omega)
    obtain ⟨hst, hgr⟩ := own_store HO.out ((l.length - 1 : Nat) : Int) (rd l ((l.length - 1 : Nat) : Int) + 128)
    simp only [Int.toNat_natCast] at hcell hfr hst hgr
    generalize hx : rd l ((l.length - 1 : Nat) : Int) = x at *
    have HX := Aside0.mk hx
    have HST := Aside0.mk hst
    have HGR := Aside0.mk hgr
    clear hx hst hgr
    have e2 := or128_u8 x h00 h01
    by_cases hc : (i : Int) < more ∧ l.length < 10
    · obtain ⟨hc1, hc2⟩ := hc
      have hlen : (l.set (l.length - 1) (x + 128)).length = l.length := List.length_set
      have HM := Aside0.mk (HN.out.more (x + 128) (by rw [HX.out]))
      obtain ⟨y, hy⟩ : ∃ y, y = l.set (l.length - 1) (x + 128) := ⟨_, rfl⟩
      rw [← hy] at hlen
      have HY := Aside0.mk hy
      have HOY := Aside0.mk (show (wr.setCell ⟨g, l.length - 1, none⟩ (.int .u8 (x + 128))).ownsRow wk.heap.size 5 1 (.slice (some ⟨g, 0, none⟩) l.length cap) y.length (nums .u8 y) by rw [hy]; rw [← hy, hlen, hy]; exact HST.out)
      have HGB := Aside0.mk (HB.out.grown HGR.out HB.out.size (fun k hk => by injection hk with hk; subst hk; exact own_base HO.out g rfl))
      have HL := Aside0.mk hlen
      clear hy hlen HN HX HST HGR
      go_upto_region 10 with (fail)
      clear HO hcell hfr
      generalize wr.setCell ⟨g, l.length - 1, none⟩ (.int .u8 (x + 128)) = w2 at *
      go_wp2_with (first | ((with_reducible refine gate_builtin (b := .append) (xs := #[.tmp 41, .tmp 42]) rfl ?_); at_builtin; refine print_append_num (w0 := wk) wk.heap.size rfl (.tmp 41) (.tmp 42) 22 5 .u8 1 rfl Try.underlying22 infoB (by decide) _ y 0 rfl rfl HOY.out HGB.out (below_size HGB.out) (by have := HL.out; omega) ?_; intro v2 w2 ho hb hg hat; have HO2 := Aside0.mk ho; have HB2 := Aside0.mk hb; clear ho hb hg hat) | fail)
      go_roundw
      case rel => exact ⟨y ++ [0], i + 1, by go_num, by omega, by have := HL.out; simp; omega, ⟨by rw [HY.out]; exact HM.out⟩, HO2, HB2⟩
      case measure => simp [intOf]; omega
    · have hcap : l.length ≤ cap := by
        rcases HO.out.2 with ⟨h, _⟩ | ⟨g', cap', cur, h, _, _, h2, _⟩
        · cases h
        · injection h with e1 e2 e3
          omega
      obtain ⟨A2, c2, e, hr⟩ := own_reads HO.out
      injection e with e1 e3 e4
      subst e1 e4
      have HR := Aside0.mk hr
      have HT := Aside0.mk (hr.take_ (l.length - 1) (by omega))
      have HU := Aside0.mk (HN.out.read hl n1)
      have HC := Aside0.mk (HN.out.cut hl)
      have HBY := Aside0.mk HN.out.bytes
      have HBT := Aside0.mk (show ∀ x ∈ l.take (l.length - 1), 0 ≤ x ∧ x ≤ 255 from fun x hx => HN.out.bytes x (List.mem_of_mem_take hx))
      clear hr HX HST HGR hcell hfr HN
      have hs : more ≤ (i : Int) ∨ ((i : Int) < more ∧ (10 : Int) ≤ l.length) := by omega
      clear hc
      rcases hs with hs1 | ⟨hs1, hs2⟩
      all_goals
        go_wp2_with fail
        refine (U_val _ _ _ _ _ _ _ _ _ _ rfl (by omega) HR.out HBY.out HU.out).mono ?_
        rintro e1 w3 ⟨rfl, rfl⟩
        go_wp2_with fail
        refine (U_val _ _ _ _ _ _ _ _ _ _ (by simp) (by omega) HT.out HBT.out HC.out).mono ?_
        rintro e1 w3 ⟨rfl, rfl⟩
        go_wp2
        go_ret
        exact ⟨rfl, below_step BK.out HB.out⟩
theorem LebCut_law (n more : Int) (w : World) (hn : (Lit.int .u64 n).wf = true) (_hm : (Lit.int .i64 more).wf = true) :
    Calls Try.prog 7 #[.int .u64 n, .int .i64 more] w fun e w' => e = .returned (.bool true) ∧ Below w.heap.size w w' := by
  by_cases h : 0 ≤ more ∧ more ≤ 9
  · exact LebCut_yes n more w (wf_u64 hn).1 (wf_u64 hn).2 h.1 h.2
  · exact LebCut_no n more w (by omega)
end Go.Proofs.Ythghmbfbjnedfaa.Leb
