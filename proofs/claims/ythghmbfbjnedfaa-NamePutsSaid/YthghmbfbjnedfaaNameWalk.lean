/- Layer 2: the walks of width, Count and Well. -/
import Derived.Test.YthghmbfbjnedfaaNameDec
import Derived.Test.YthghmbfbjnedfaaLebLawA
import Derived.Laws.RangeAny
namespace Go.Proofs.Ythghmbfbjnedfaa.Nm
open Go.RowKit Go.Proofs.YthghmbfbjnedfaaW.PrintWords Go.Proofs.Ythghmbfbjnedfaa.Base Go.Proofs.Ythghmbfbjnedfaa.BitsA Go.Proofs.Ythghmbfbjnedfaa.Lb
theorem wid_1 {c : Nat} (h : c < 128) : wid c = 1 := by simp [wid, h]
theorem wid_2 {c : Nat} (h : 128 ≤ c) (h2 : c < 2048) : wid c = 2 := by unfold wid; rw [if_neg (by omega), if_pos h2]
theorem wid_3 {c : Nat} (h : 2048 ≤ c) (h2 : c < 65536) : wid c = 3 := by unfold wid; rw [if_neg (by omega), if_neg (by omega), if_pos h2]
theorem wid_4 {c : Nat} (h : 65536 ≤ c) : wid c = 4 := by unfold wid; rw [if_neg (by omega), if_neg (by omega), if_neg (by omega)]
set_option maxRecDepth 100000 in
theorem width_calls (c : Nat) (w : World) : Calls Try.prog 72 #[.int .i32 c] w fun e w' => e = .returned (.int .i64 (wid c)) ∧ w = w' := by
  go_enter Try.func72, Try.ntmps72
  rcases (show c < 128 ∨ (128 ≤ c ∧ c < 2048) ∨ (2048 ≤ c ∧ c < 65536) ∨ 65536 ≤ c by omega) with h | ⟨h1, h2⟩ | ⟨h1, h2⟩ | h
  · rw [wid_1 h]
    have h' : (c : Int) < 128 := by omega
    go_wp2
    go_ret
    exact ⟨rfl, rfl⟩
  · rw [wid_2 h1 h2]
    have h1' : ¬ (c : Int) < 128 := by omega
    have h2' : (c : Int) < 2048 := by omega
    go_wp2
    go_ret
    exact ⟨rfl, rfl⟩
  · rw [wid_3 h1 h2]
    have h1' : ¬ (c : Int) < 128 := by omega
    have h2' : ¬ (c : Int) < 2048 := by omega
    have h3' : (c : Int) < 65536 := by omega
    go_wp2
    go_ret
    exact ⟨rfl, rfl⟩
  · rw [wid_4 h]
    have h1' : ¬ (c : Int) < 128 := by omega
    have h2' : ¬ (c : Int) < 2048 := by omega
    have h3' : ¬ (c : Int) < 65536 := by omega
    go_wp2
    go_ret
    exact ⟨rfl, rfl⟩
theorem width_val (c : Nat) (k : Nat) (w : World) (h : wid c = k) : Calls Try.prog 72 #[.int .i32 c] w fun e w' => e = .returned (.int .i64 k) ∧ w = w' := by
  subst h
  exact width_calls c w
theorem byte_at (s : ByteArray) (i : Nat) (h : i < s.size) : (s[i]'h).toNat = (nb s).getD i 0 := by
  rw [← nb_get]
  show _ = (s.data[i]!).toNat
  rw [getElem!_pos s.data i h]
  rfl
theorem idx_at (s : ByteArray) (i : Nat) (h : i < s.size) (j : Int) (hj : j = i) (v : Int) (hv : (((nb s).getD i 0 : Nat) : Int) = v) (w : World) :
    (Instr.index 9 (.string s) (.int .i64 j)).run Try.prog w = .ok (.int .u8 v) w := by
  subst hj hv
  rw [run_index_string (h := Try.underlying9), dif_pos (by omega)]
  rw [← byte_at s i h]
  rfl
theorem drop_getD (l : List Nat) (p k : Nat) : (l.drop p).getD k 0 = l.getD (p + k) 0 := by simp [List.getD_eq_getElem?_getD]
set_option maxHeartbeats 2000000 in
set_option maxRecDepth 100000 in
theorem Count_calls (s : ByteArray) (w : World) (hs : s.size ≤ 1000000) : Calls Try.prog 34 #[.string s] w fun e w' => e = .returned (.int .i64 (CI (nb s))) ∧ Below w.heap.size w w' := by
  obtain ⟨R, hR⟩ : ∃ R, CI (nb s) = R := ⟨_, rfl⟩
  rw [hR]
  have HR := Aside0.mk hR
  clear hR
  go_enter Try.func34, Try.ntmps34
  go_wp2
  go_loopw [3, 4] (fun v3 v4 wr => ∃ (p n : Nat), wr = w.iter s p ∧ v3 = .int .i64 n ∧ v4 = .int .i64 p ∧ p ≤ s.size ∧ n ≤ p ∧ Aside0 (R = if CI ((nb s).drop p) < 0 then -1 else CI ((nb s).drop p) + n)) (fun _ _ wr => s.size - wr.iterPos w.heap.size)
  case atStart =>
    refine ⟨0, 0, rfl, rfl, rfl, by omega, by omega, ⟨?_⟩⟩
    rw [← HR.out]
    have := CI_ge (nb s)
    simp
    intro h
    omega
  case round =>
    obtain ⟨p, n, rfl, rfl, rfl, hp, hn, HC⟩ := hrel
    by_cases hq : p < s.size
    · have hne : (nb s).drop p ≠ [] := by
        intro h
        have := congrArg List.length h
        rw [List.length_drop, nb_length] at this
        simp at this
        omega
      have hby : ∀ x ∈ (nb s).drop p, x ≤ 255 := fun x hx => nb_byte s x (List.mem_of_mem_drop hx)
      obtain ⟨c, z, hd⟩ : ∃ c z, decL ((nb s).drop p) = (c, z) := ⟨_, _, rfl⟩
      have hnx : ∀ ty, (Instr.next (.pointer (some ⟨w.heap.size, 0, none⟩)) true ty).run Try.prog (w.iter s p) = .ok (.tuple #[.bool true, .int .i64 p, .int .i32 c]) (w.iter s (p + z)) := fun ty => by
        have := run_next_any (P := Try.prog) w s p ty hq
        rw [decode_list, hd] at this
        exact this
      rcases dec_step _ hne hby with ⟨h0, hB⟩ | ⟨h0, hG⟩
      · have hR : R = -1 := by
          rw [HC.out, CI_bad hne h0]
          rfl
        have := hB.dec
        rw [hd] at this
        injection this with e1 e2
        subst e1 e2
        have he := hB.err
        clear hB hd hne hby HC HR h0
        subst hR
        unfold fffd at he
        rw [List.length_drop, nb_length, drop_getD, drop_getD, drop_getD] at he
        go_wp2_with fail
        refine (width_val 65533 3 _ rfl).mono ?_
        rintro e w1 ⟨rfl, rfl⟩
        by_cases g0 : s.size - p < 3
        · have hd3 : (s.size : Int) - p < 3 := by omega
          clear he
          go_wp2
          go_ret
          exact ⟨rfl, below_alloc (Below.refl _ _) _⟩
        have hd3 : ¬ (s.size : Int) - p < 3 := by omega
        obtain ⟨v0, e0⟩ : ∃ v, (nb s).getD (p + 0) 0 = v := ⟨_, rfl⟩
        obtain ⟨v1, e1⟩ : ∃ v, (nb s).getD (p + 1) 0 = v := ⟨_, rfl⟩
        obtain ⟨v2, e2⟩ : ∃ v, (nb s).getD (p + 2) 0 = v := ⟨_, rfl⟩
        rw [e0, e1, e2] at he
        have i0 := idx_at s (p + 0) (by omega) p (by omega) v0 (by rw [e0])
        have i1 := idx_at s (p + 1) (by omega) (p + 1) (by omega) v1 (by rw [e1])
        have i2 := idx_at s (p + 2) (by omega) (p + 2) (by omega) v2 (by rw [e2])
        clear e0 e1 e2
        by_cases k0 : v0 = 239
        · subst k0
          by_cases k1 : v1 = 191
          · subst k1
            have k2 : ((v2 : Int) != 189) = true := bne_iff_ne.2 fun h => he ⟨by omega, rfl, rfl, by omega⟩
            clear he
            go_wp2
            go_ret
            exact ⟨rfl, below_alloc (Below.refl _ _) _⟩
          · have k2 : ((v1 : Int) != 191) = true := bne_iff_ne.2 (by omega)
            clear he i2
            go_wp2
            go_ret
            exact ⟨rfl, below_alloc (Below.refl _ _) _⟩
        · have k2 : ((v0 : Int) != 239) = true := bne_iff_ne.2 (by omega)
          clear he i1 i2
          go_wp2
          go_ret
          exact ⟨rfl, below_alloc (Below.refl _ _) _⟩
      · obtain ⟨z0, hz⟩ : ∃ z0, one ((nb s).drop p) = z0 := ⟨_, rfl⟩
        have hw := hG.wid
        have hl := hG.len
        have he := hG.err
        have h1 := one_le ((nb s).drop p)
        have hC := CI_good hne h0
        rw [hz] at hw hl h1 hC h0
        rw [hd] at hw hl he
        simp only at hw hl he
        subst hl
        rw [List.length_drop, nb_length] at h1
        rw [List.drop_drop] at hC
        have HC2 := Aside0.mk hC
        clear hC hG hd hz hne hby
        go_wp2_with fail
        refine (width_val _ _ _ hw).mono ?_
        rintro e w1 ⟨rfl, rfl⟩
        by_cases hc : c = 65533
        · have hF := he hc
          unfold fffd at hF
          obtain ⟨f0, f1, f2, f3⟩ := hF
          rw [List.length_drop, nb_length] at f0
          rw [drop_getD] at f1 f2 f3
          have i0 := idx_at s (p + 0) (by omega) p (by omega) 239 (by rw [f1]; rfl)
          have i1 := idx_at s (p + 1) (by omega) (p + 1) (by omega) 191 (by rw [f2]; rfl)
          have i2 := idx_at s (p + 2) (by omega) (p + 2) (by omega) 189 (by rw [f3]; rfl)
          have hd3 : ¬ (s.size : Int) - p < 3 := by omega
          subst hc
          clear f1 f2 f3 he
          go_wp2
          refine ⟨⟨p + z, n + 1, rfl, by simp, by simp, by omega, by omega, ⟨?_⟩⟩, ?_⟩
          · have hc := HC.out
            have hc2 := HC2.out
            have hg := CI_ge ((nb s).drop (p + z))
            clear HC HC2
            generalize CI ((nb s).drop (p + z)) = x at hc2 hg ⊢
            generalize CI ((nb s).drop p) = y at hc hc2
            subst hc hc2
            push_cast
            repeat' split
            all_goals omega
          · simp
            omega
        · have hc' : ¬ (c : Int) = 65533 := by omega
          clear he
          go_wp2
          refine ⟨⟨p + z, n + 1, rfl, by simp, by simp, by omega, by omega, ⟨?_⟩⟩, ?_⟩
          · have hc := HC.out
            have hc2 := HC2.out
            have hg := CI_ge ((nb s).drop (p + z))
            clear HC HC2
            generalize CI ((nb s).drop (p + z)) = x at hc2 hg ⊢
            generalize CI ((nb s).drop p) = y at hc hc2
            subst hc hc2
            push_cast
            repeat' split
            all_goals omega
          · simp
            omega
    · have hnx : ∀ ty, (Instr.next (.pointer (some ⟨w.heap.size, 0, none⟩)) true ty).run Try.prog (w.iter s p) = _ := fun ty => run_next_end w s p ty hq
      go_wp2
      go_ret
      have e : R = n := by
        rw [HC.out, List.drop_eq_nil_of_le (by rw [nb_length]; omega), CI_nil]
        simp
      subst e
      exact ⟨rfl, below_alloc (Below.refl _ _) _⟩
theorem Count_val (s : ByteArray) (r : Int) (w : World) (hs : s.size ≤ 1000000) (h : CI (nb s) = r) : Calls Try.prog 34 #[.string s] w fun e w' => e = .returned (.int .i64 r) ∧ Below w.heap.size w w' := by
  subst h
  exact Count_calls s w hs
set_option maxRecDepth 100000 in
theorem Well_val (s : ByteArray) (r : Bool) (w : World) (hs : s.size ≤ 1000000) (h : decide (0 ≤ CI (nb s)) = r) : Calls Try.prog 32 #[.string s] w fun e w' => e = .returned (.bool r) ∧ Below w.heap.size w w' := by
  subst h
  obtain ⟨R, hR⟩ : ∃ R, CI (nb s) = R := ⟨_, rfl⟩
  rw [hR]
  go_enter Try.func32, Try.ntmps32
  go_wp2_with fail
  refine (Count_val s R _ hs hR).mono ?_
  rintro e w1 ⟨rfl, hb⟩
  have B := Aside0.mk hb
  clear hb hR
  go_wp2
  go_ret
  exact ⟨rfl, B.out⟩
end Go.Proofs.Ythghmbfbjnedfaa.Nm
