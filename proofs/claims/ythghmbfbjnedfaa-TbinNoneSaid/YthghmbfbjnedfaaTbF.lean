/- Layer 6: the heap types that are given; Open. -/
import Derived.Test.YthghmbfbjnedfaaTbE
import Derived.WalkSpells
namespace Go.Proofs.Ythghmbfbjnedfaa.Tb
open Go Go.RowKit Go.Proofs.YthghmbfbjnedfaaW.PrintWords Go.Proofs.Ythghmbfbjnedfaa.Lb Go.Proofs.Ythghmbfbjnedfaa.Leb
set_option maxHeartbeats 4000000
set_option maxRecDepth 100000
/-- The heap type of a byte: its kind; 0: none. -/
def givenF (x : Int) : Int := if x = 105 then 11 else if x = 106 then 5 else if x = 107 then 4 else if x = 108 then 3 else if x = 109 then 2 else if x = 110 then 1 else if x = 111 then 9 else if x = 112 then 7 else if x = 113 then 6 else if x = 114 then 10 else if x = 115 then 8 else if x = 116 then 12 else 0
theorem given_val (x : Int) (w : World) (h0 : 0 ≤ x) (h1 : x ≤ 255) :
    Calls Try.prog 87 #[.int .u8 x] w fun e w' => e = .returned (.tuple #[.agg #[.int .i64 (givenF x), .int .i64 0], .bool (givenF x != 0)]) ∧ Below w.heap.size w w' := by
  have HB := A1.mk (Below.refl w.heap.size w)
  by_cases hlo : x < 105
  · have e : givenF x = 0 := by unfold givenF; simp only [show x ≠ 105 by omega, show x ≠ 106 by omega, show x ≠ 107 by omega, show x ≠ 108 by omega, show x ≠ 109 by omega, show x ≠ 110 by omega, show x ≠ 111 by omega, show x ≠ 112 by omega, show x ≠ 113 by omega, show x ≠ 114 by omega, show x ≠ 115 by omega, show x ≠ 116 by omega, if_false]
    rw [e]
    clear e
    go_enter Try.func87, Try.ntmps87
    go_wp2
    go_returns
    exact ⟨rfl, (HB.out.alloc (Nat.le_refl _) _).alloc (by simp) _⟩
  by_cases hhi : 116 < x
  · have e : givenF x = 0 := by unfold givenF; simp only [show x ≠ 105 by omega, show x ≠ 106 by omega, show x ≠ 107 by omega, show x ≠ 108 by omega, show x ≠ 109 by omega, show x ≠ 110 by omega, show x ≠ 111 by omega, show x ≠ 112 by omega, show x ≠ 113 by omega, show x ≠ 114 by omega, show x ≠ 115 by omega, show x ≠ 116 by omega, if_false]
    rw [e]
    clear e
    go_enter Try.func87, Try.ntmps87
    go_wp2
    go_returns
    exact ⟨rfl, (HB.out.alloc (Nat.le_refl _) _).alloc (by simp) _⟩
  rcases (show x = 105 ∨ x = 106 ∨ x = 107 ∨ x = 108 ∨ x = 109 ∨ x = 110 ∨ x = 111 ∨ x = 112 ∨ x = 113 ∨ x = 114 ∨ x = 115 ∨ x = 116 by omega) with rfl | rfl | rfl | rfl | rfl | rfl | rfl | rfl | rfl | rfl | rfl | rfl
  all_goals
    clear h0 h1 hlo hhi
    go_enter Try.func87, Try.ntmps87
    go_wp2
    go_returns
    exact ⟨rfl, (HB.out.alloc (Nat.le_refl _) _).alloc (by simp) _⟩
theorem own_empty (W : World) : (W.alloc (.cells #[] 5)).ownsRow W.heap.size 5 1 (.slice (some ⟨W.heap.size, 0, none⟩) 0 0) ([] : List Int).length (nums .u8 []) :=
  World.ownsRow_made W #[] 0 (Nat.le_refl _) (Nat.zero_le _) rfl
theorem infoU8 : (Try.prog.info? 5).map (fun i => (i.zero, i.size, i.bytes)) = some (some (.int .u8 0), 1, 1) := by kernel_rfl
theorem Clone_val (w : World) (A : Option Addr) (c : Nat) (l : List Int) (hb : ReadsInt w .u8 A l.length l) (hl : l.length ≤ 1000000) (hA : A = none → l = [] ∧ c = 0) :
    Calls Try.prog 85 #[.slice A l.length c] w fun e w' => ∃ v, e = .returned v ∧ w'.ownsRow w.heap.size 5 1 v l.length (nums .u8 l) ∧ Below w.heap.size w w' := by
  have HB := A1.mk (Below.refl w.heap.size w)
  cases A with
  | none =>
    obtain ⟨rfl, rfl⟩ := hA rfl
    clear hA hb hl
    have q := run_eql_nil_slice (P := Try.prog) w 22 5 none 0 0 0 0 Try.underlying22
    go_enter Try.func85, Try.ntmps85
    go_wp2
    go_ret
    exact ⟨_, rfl, World.ownsRow_nil _ _ _ _, HB.out⟩
  | some ad =>
    have HR := A1.mk hb
    clear hA hb
    have q := Go.Lib.run_eql_slice_nil (P := Try.prog) w 22 5 (some ad) l.length c 0 0 Try.underlying22
    go_enter Try.func85, Try.ntmps85
    go_wp2_with (first | ((with_reducible refine gateB (b := .append) (xs := #[.tmp 5, .tmp 6]) rfl ?_); at_builtin; refine print_append_row (w0 := w) w.heap.size rfl (.tmp 5) (.tmp 6) 22 5 .u8 1 rfl Try.underlying22 infoU8 (by decide) _ ([]) (l) _ _ _ rfl rfl (own_empty w) (HR.out.below (below_alloc (Below.refl _ _) _)) (below_alloc (Below.refl _ _) _) (below_size (below_alloc (Below.refl _ _) _)) (by simp; omega) ?_; intro v4 w4 ho hb hg hat; simp only [List.nil_append] at ho; have O4 := A1.mk ho; have B4 := A1.mk hb; clear ho hb hg hat) | fail)
    go_ret
    exact ⟨_, rfl, O4.out, B4.out⟩
theorem Open_val (w : World) (A : Option Addr) (c : Nat) (l : List Int) (hb : ReadsInt w .u8 A l.length l) (hl : l.length ≤ 1000000) (hA : A = none → l = [] ∧ c = 0) (hu : ∀ x ∈ l, 0 ≤ x ∧ x ≤ 255) :
    Calls Try.prog 62 #[.slice A l.length c] w fun e w' => ∃ p A' c', e = .returned (.pointer (some ⟨p, 0, none⟩)) ∧ w.heap.size ≤ p ∧ On w' p A' c' l ⟨0, 0, 0⟩ ∧ Below w.heap.size w w' := by
  have C := A1.mk (Clone_val w A c l hb hl hA)
  clear hb hA
  go_enter Try.func62, Try.ntmps62
  go_wp2_with fail
  refine C.out.mono ?_
  rintro e w1 ⟨v, rfl, ho, hb⟩
  obtain ⟨A', c', rfl, hr⟩ := own_reads ho
  have hcap : l.length ≤ c' := by
    rcases ho.2 with ⟨h1, h2⟩ | ⟨g, cap, cur, h1, hg, _, hcap, _⟩
    · omega
    · have h3 : A' = some ⟨g, 0, none⟩ ∧ c' = cap := by simpa using h1
      omega
  have hap : ∀ ad, A' = some ad → 0 < l.length → ad.block ≠ w1.heap.size := by
    intro ad e h0 e2
    obtain ⟨ad2, e3, hc⟩ := hr.2.2 h0
    obtain rfl := Option.some.inj (e.symm.trans e3)
    have h5 := World.block_lt_of_cell? w1 _ (hc 0 h0)
    have h6 : (ad.add 0).block = ad.block := by unfold Addr.add; rfl
    omega
  have ON : On (w1.alloc (.cells (rcells ⟨0, 0, 0⟩ A' l.length c') 54)) w1.heap.size A' c' l ⟨0, 0, 0⟩ :=
    ⟨heap_alloc_new w1 _, hr.below (below_alloc (Below.refl _ _) _), hap, hcap, Int.le_refl _, by show (0 : Int) ≤ l.length; omega, hu, hl⟩
  have X := A1.mk (And.intro ON (hb.alloc hb.size (.cells (rcells ⟨0, 0, 0⟩ A' l.length c') 54)))
  have hs := hb.size
  clear ON hap hcap hr ho hb C hu
  go_wp2
  go_ret
  exact ⟨w1.heap.size, A', c', rfl, hs, X.out⟩
end Go.Proofs.Ythghmbfbjnedfaa.Tb
