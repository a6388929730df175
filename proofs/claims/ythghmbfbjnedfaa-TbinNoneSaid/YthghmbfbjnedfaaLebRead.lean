/- The Go functions leb.read, U, S come to the plain functions of LebRSpec. -/
import Derived.Test.YthghmbfbjnedfaaWWords
import Derived.Test.YthghmbfbjnedfaaProg
import Derived.Test.YthghmbfbjnedfaaLebRSpec
import Derived.WalkKit
import Derived.KernelRfl
import Derived.Deep.LoopGhost
import Derived.Deep.DeepCutAuto
import Derived.Deep.CutBlock
import Derived.ScopeJumps
namespace Go.Proofs.Ythghmbfbjnedfaa.Leb
open Go.RowKit Go.Proofs.YthghmbfbjnedfaaW.PrintWords Go.Proofs.Ythghmbfbjnedfaa.Lb
def Jump33 (r : Int × Int × Int) (w : World) (a' : Act) (w' : World) : Prop := w' = w ∧ a'.defers = [] ∧ a'.tmps.size = 119 ∧ ∃ e, r = (0, 0, e) ∧ a'.tmps[10]? = some (.int .i64 e)
set_option maxHeartbeats 1000000 in
set_option maxRecDepth 100000 in
theorem read_ok (A0 : Option Addr) (c0 : Nat) (l0 : List Int) (at_ bits : Int) (sg : Bool) (w : World) (hl : l0.length ≤ 9223372036854775807) (hr0 : ReadsInt w .u8 A0 l0.length l0) (hby : ∀ x ∈ l0, 0 ≤ x ∧ x ≤ 255)
   (h1 : 1 ≤ bits) (h2 : bits ≤ 64) (h3 : 0 ≤ at_) (h4 : at_ ≤ l0.length) (r : Int × Int × Int) (hr : rdL l0 bits sg 10 at_ 0 0 = r) :
    Calls Try.prog 64 #[.slice A0 l0.length c0, .int .i64 at_, .int .i64 bits, .bool sg] w fun e w' => e = .returned (.tuple #[.int .u64 r.1, .int .i64 r.2.1, .int .i64 r.2.2]) ∧ w = w' := by
  have HA := Aside0.mk hr
  have HR := Aside0.mk hr0
  have HB := Aside0.mk hby
  clear hr hr0 hby
  go_enter Try.func64, Try.ntmps64
  go_wp2
  refine wp_scope_jumps 0 (Jump33 r w) (fun _ _ => 0) rfl ?_ ?_
  · go_wp2
    go_loopg [1, 8, 11, 12] 10 (fun kq v1 v8 v11 v12 w' => ∃ (i n x p : Int), v1 = .int .i64 i ∧ v8 = .int .u64 n ∧ v11 = .int .u8 x ∧ v12 = .int .i64 p ∧ w' = w ∧ 0 ≤ i ∧ i ≤ l0.length ∧ 0 ≤ p ∧ p < bits ∧ Aside0 (rdL l0 bits sg kq i n p = r) ∧ bits ≤ p + 7 * kq)
    case atStart => exact ⟨_, _, _, _, rfl, rfl, rfl, rfl, rfl, h3, h4, by omega, by omega, HA, by omega⟩
    case round =>
      clear HA
      obtain ⟨i, n, x, p, rfl, rfl, rfl, rfl, rfl, hi0, hi1, hp0, hp1, HA, hg⟩ := hrel
      cases gk with
      | zero => exact absurd hg (by omega)
      | succ k1 =>
      by_cases hlt : i < l0.length
      · obtain ⟨ad, rfl, hx⟩ := HR.out.at_ i hi0 hlt
        obtain ⟨hb0, hb1⟩ := HB.out _ (rd_mem l0 i hi0 hlt)
        go_upto_if 47 with (fail)
        go_cut [13] from 31 to 86 (fun v13 wc => v13 = .int .i64 (bits - p) ∧ wc = wr ∧ Aside0 (¬ (bits - p < 7 ∧ bad (rd l0 i) (bits - p) sg = true)))
        case first =>
          by_cases c2 : bits - p < 7
          · by_cases cb : bad (rd l0 i) (bits - p) sg = true
            · have HE := Aside0.mk (show r = (0, 0, 11) by rw [← HA.out]; simp only [rdL]; rw [if_pos hlt, if_pos ⟨c2, cb⟩])
              clear HA
              have cb' := cb
              clear cb
              unfold bad beyond topB at cb'
              have hz : 0 ≤ bits - p - 1 := by omega
              by_cases e0 : Go.bits BinOp.and IntKind.u8 (rd l0 i) 127 / 2 ^ (bits - p).toNat = 0
              · rw [if_pos e0, Bool.and_eq_true] at cb'
                obtain ⟨rfl, t1⟩ := cb'
                go_wp2
                go_step3
                exact ⟨rfl, rfl, rfl, rfl, _, HE.out, rfl⟩
              · rw [if_neg e0, Bool.not_eq_true'] at cb'
                cases sg
                · clear cb'
                  go_wp2
                  go_step3
                  exact ⟨rfl, rfl, rfl, rfl, _, HE.out, rfl⟩
                · cases t1 : (Go.bits BinOp.and IntKind.u8 (rd l0 i / 2 ^ ((bits - p).toNat - 1)) 1 == 1)
                  · clear cb'
                    go_wp2
                    go_step3
                    exact ⟨rfl, rfl, rfl, rfl, _, HE.out, rfl⟩
                  · rw [t1, Bool.true_and, Bool.true_and] at cb'
                    go_wp2
                    go_step3
                    exact ⟨rfl, rfl, rfl, rfl, _, HE.out, rfl⟩
            · have HN := Aside0.mk (show ¬ (bits - p < 7 ∧ bad (rd l0 i) (bits - p) sg = true) from fun h => cb h.2)
              clear HA
              have cb' := Bool.eq_false_iff.2 cb
              clear cb
              unfold bad beyond topB at cb'
              have hz : 0 ≤ bits - p - 1 := by omega
              by_cases e0 : Go.bits BinOp.and IntKind.u8 (rd l0 i) 127 / 2 ^ (bits - p).toNat = 0
              · rw [if_pos e0] at cb'
                cases sg
                · clear cb'
                  go_wp2
                  go_meet
                  case rel => exact ⟨rfl, rfl, HN⟩
                · rw [Bool.true_and] at cb'
                  go_wp2
                  go_meet
                  case rel => exact ⟨rfl, rfl, HN⟩
              · rw [if_neg e0, Bool.not_eq_false', Bool.and_eq_true, Bool.and_eq_true] at cb'
                obtain ⟨⟨rfl, t1⟩, t2⟩ := cb'
                go_wp2
                go_meet
                case rel => exact ⟨rfl, rfl, HN⟩
          · have HN := Aside0.mk (show ¬ (bits - p < 7 ∧ bad (rd l0 i) (bits - p) sg = true) from fun h => c2 h.1)
            clear HA
            go_wp2
            go_meet
            case rel => exact ⟨rfl, rfl, HN⟩
        case rest =>
          obtain ⟨rfl, rfl, HN⟩ := hcut
          by_cases c3 : rd l0 i < 128
          · cases sg
            · have HE := Aside0.mk (show r = (nxt n (rd l0 i) p, i + 1, 0) by rw [← HA.out]; simp only [rdL]; rw [if_pos hlt, if_neg HN.out, if_pos c3, if_neg (by simp)])
              clear HA
              go_wp2
              simp only [Exit.jump]
              go_ret3
              exact ⟨by rw [HE.out]; rfl, rfl⟩
            · by_cases c4 : p + 7 < 64
              · cases c5 : (Go.bits BinOp.and IntKind.u8 (rd l0 i) 64 != 0)
                · have HE := Aside0.mk (show r = (nxt n (rd l0 i) p, i + 1, 0) by rw [← HA.out]; simp only [rdL]; rw [if_pos hlt, if_neg HN.out, if_pos c3, if_neg (by simp [c5])])
                  clear HA
                  go_wp2
                  simp only [Exit.jump]
                  go_ret3
                  exact ⟨by rw [HE.out]; rfl, rfl⟩
                · have HE := Aside0.mk (show r = (ext (nxt n (rd l0 i) p) (p + 7), i + 1, 0) by rw [← HA.out]; simp only [rdL]; rw [if_pos hlt, if_neg HN.out, if_pos c3, if_pos ⟨trivial, c4, c5⟩])
                  clear HA
                  go_wp2
                  simp only [Exit.jump]
                  go_ret3
                  exact ⟨by rw [HE.out]; rfl, rfl⟩
              · have HE := Aside0.mk (show r = (nxt n (rd l0 i) p, i + 1, 0) by rw [← HA.out]; simp only [rdL]; rw [if_pos hlt, if_neg HN.out, if_pos c3, if_neg (fun h => c4 h.2.1)])
                clear HA
                go_wp2
                simp only [Exit.jump]
                go_ret3
                exact ⟨by rw [HE.out]; rfl, rfl⟩
          · by_cases c6 : bits ≤ p + 7
            · have HE := Aside0.mk (show r = (0, 0, 11) by rw [← HA.out]; simp only [rdL]; rw [if_pos hlt, if_neg HN.out, if_neg c3, if_pos c6])
              clear HA
              go_wp2
              go_step3
              exact ⟨rfl, rfl, rfl, rfl, _, HE.out, rfl⟩
            · have HE := Aside0.mk (show rdL l0 bits sg k1 (i + 1) (nxt n (rd l0 i) p) (p + 7) = r by rw [← HA.out]; simp only [rdL]; rw [if_pos hlt, if_neg HN.out, if_neg c3, if_neg c6])
              clear HA
              go_wp2
              go_roundg k1
              case measure => omega
              case rel => exact ⟨_, _, _, _, rfl, rfl, rfl, rfl, rfl, by omega, by omega, by omega, by omega, HE, by omega⟩
      · have HE := Aside0.mk (show r = (0, 0, 10) by rw [← HA.out]; simp only [rdL]; rw [if_neg hlt])
        clear HA
        go_wp2
        go_step3
        exact ⟨rfl, rfl, rfl, rfl, _, HE.out, rfl⟩
  · rintro a' w' ⟨rfl, hd, hs, e, hP, he⟩
    have he2 : a'.tmps[10] = .int .i64 e := by
      rw [Array.getElem?_eq_getElem (by omega)] at he
      exact Option.some.inj he
    go_wp2
    simp only [Exit.jump]
    refine bodyPost_ret (v := .tuple #[.int .u64 0, .int .i64 0, .int .i64 e]) (by simp [results, Try.results64, go_sem, hs]) rfl ⟨?_, rfl⟩
    rw [hP]
set_option maxHeartbeats 1000000 in
set_option maxRecDepth 100000 in
theorem read_no (v0 : Option Addr) (n0 c0 : Nat) (at_ bits : Int) (sg : Bool) (w : World) (hl : n0 ≤ 9223372036854775807)
    (h : ¬ (1 ≤ bits ∧ bits ≤ 64 ∧ 0 ≤ at_ ∧ at_ ≤ n0)) :
    Calls Try.prog 64 #[.slice v0 n0 c0, .int .i64 at_, .int .i64 bits, .bool sg] w fun e w' => e = .returned (.tuple #[.int .u64 0, .int .i64 0, .int .i64 2]) ∧ w = w' := by
  have hs : bits < 1 ∨ (1 ≤ bits ∧ 64 < bits) ∨ (1 ≤ bits ∧ bits ≤ 64 ∧ at_ < 0) ∨ (1 ≤ bits ∧ bits ≤ 64 ∧ 0 ≤ at_ ∧ (n0 : Int) < at_) := by omega
  clear h
  go_enter Try.func64, Try.ntmps64
  go_wp2
  refine wp_scope_jumps 0 (Jump33 (0, 0, 2) w) (fun _ _ => 0) rfl ?_ ?_
  · rcases hs with h1 | ⟨h1, h2⟩ | ⟨h1, h2, h3⟩ | ⟨h1, h2, h3, h4⟩
    all_goals
      go_wp2
      go_step3
      exact ⟨rfl, rfl, rfl, rfl, _, rfl, rfl⟩
  · clear hs
    rintro a' w' ⟨rfl, hd, hs, e, hP, he⟩
    have he2 : a'.tmps[10] = .int .i64 e := by
      rw [Array.getElem?_eq_getElem (by omega)] at he
      exact Option.some.inj he
    have hPe : e = 2 := by simpa using hP.symm
    go_wp2
    simp only [Exit.jump]
    exact bodyPost_ret (v := .tuple #[.int .u64 0, .int .i64 0, .int .i64 2]) (by simp [results, Try.results64, go_sem, hs]) rfl ⟨rfl, rfl⟩
theorem read_any (A0 : Option Addr) (c0 : Nat) (l0 : List Int) (at_ bits : Int) (sg : Bool) (w : World) (hl : l0.length ≤ 9223372036854775807) (hr0 : ReadsInt w .u8 A0 l0.length l0) (hby : ∀ x ∈ l0, 0 ≤ x ∧ x ≤ 255) :
    Calls Try.prog 64 #[.slice A0 l0.length c0, .int .i64 at_, .int .i64 bits, .bool sg] w fun e w' => e = .returned (.tuple #[.int .u64 (readF l0 at_ bits sg).1, .int .i64 (readF l0 at_ bits sg).2.1, .int .i64 (readF l0 at_ bits sg).2.2]) ∧ w = w' := by
  by_cases h : 1 ≤ bits ∧ bits ≤ 64 ∧ 0 ≤ at_ ∧ at_ ≤ l0.length
  · unfold readF
    rw [if_pos h]
    exact read_ok A0 c0 l0 at_ bits sg w hl hr0 hby h.1 h.2.1 h.2.2.1 h.2.2.2 _ rfl
  · unfold readF
    rw [if_neg h]
    exact read_no A0 l0.length c0 at_ bits sg w hl h
theorem U_calls (A0 : Option Addr) (c0 : Nat) (l0 : List Int) (at_ bits : Int) (w : World) (hl : l0.length ≤ 9223372036854775807) (hr0 : ReadsInt w .u8 A0 l0.length l0) (hby : ∀ x ∈ l0, 0 ≤ x ∧ x ≤ 255) :
    Calls Try.prog 20 #[.slice A0 l0.length c0, .int .i64 at_, .int .i64 bits] w fun e w' => e = .returned (.tuple #[.int .u64 (readU l0 at_ bits).1, .int .i64 (readU l0 at_ bits).2.1, .int .i64 (readU l0 at_ bits).2.2]) ∧ w = w' := by
  have HH := Aside0.mk (read_any A0 c0 l0 at_ bits false w hl hr0 hby)
  clear hr0 hby
  go_enter Try.func20, Try.ntmps20
  go_wp2_with (go_at_call 64; refine HH.out.mono ?_; rintro e w1 ⟨rfl, rfl⟩)
  go_ret3
  exact ⟨rfl, rfl⟩
theorem S_calls (A0 : Option Addr) (c0 : Nat) (l0 : List Int) (at_ bits : Int) (w : World) (hl : l0.length ≤ 9223372036854775807) (hr0 : ReadsInt w .u8 A0 l0.length l0) (hby : ∀ x ∈ l0, 0 ≤ x ∧ x ≤ 255) :
    Calls Try.prog 22 #[.slice A0 l0.length c0, .int .i64 at_, .int .i64 bits] w fun e w' => e = .returned (.tuple #[.int .i64 (readS l0 at_ bits).1, .int .i64 (readS l0 at_ bits).2.1, .int .i64 (readS l0 at_ bits).2.2]) ∧ w = w' := by
  have HH := Aside0.mk (read_any A0 c0 l0 at_ bits true w hl hr0 hby)
  clear hr0 hby
  go_enter Try.func22, Try.ntmps22
  go_wp2_with (go_at_call 64; refine HH.out.mono ?_; rintro e w1 ⟨rfl, rfl⟩)
  go_ret3
  exact ⟨rfl, rfl⟩
end Go.Proofs.Ythghmbfbjnedfaa.Leb
