/- The law NamePuts: its walk. -/
import Derived.Test.YthghmbfbjnedfaaNameJoins
import Derived.Test.YthghmbfbjnedfaaNameRefRead
namespace Go.Proofs.Ythghmbfbjnedfaa.Nm
open Go.RowKit Go.Proofs.YthghmbfbjnedfaaW.PrintWords Go.Proofs.Ythghmbfbjnedfaa.BitsA Go.Proofs.Ythghmbfbjnedfaa.Lb Go.Proofs.Ythghmbfbjnedfaa.Leb
theorem set_rep (m i : Nat) (h : i < m) : (List.replicate i (97 : Int) ++ List.replicate (m - i) 0).set i 97 = List.replicate (i + 1) 97 ++ List.replicate (m - (i + 1)) 0 := by
  have e : m - i = (m - (i + 1)) + 1 := by omega
  rw [List.set_append_right _ _ (by simp), List.length_replicate, Nat.sub_self, e, List.replicate_succ, List.set_cons_zero, List.replicate_succ']
  simp [List.append_assoc]
set_option maxHeartbeats 2000000 in
set_option maxRecDepth 100000 in
theorem NamePuts_law (s : ByteArray) (more : Int) (w : World) (_hs : s.size ≤ 140737488351232) (_ha : (Lit.int .i64 more).wf = true) :
    Calls Try.prog 13 #[.string s, .int .i64 more] w fun e w' => e = .returned (.bool true) ∧ Below w.heap.size w w' := by
  clear _hs _ha
  by_cases h1 : (3000 : Int) < s.size
  · go_enter Try.func13, Try.ntmps13
    go_wp2_with fail
    refine (known_calls _).mono ?_
    rintro e w1 ⟨rfl, hb⟩
    have B1 := Aside0.mk hb
    clear hb
    go_wp2
    go_ret
    exact ⟨rfl, B1.out⟩
  by_cases h2 : more < 0
  · go_enter Try.func13, Try.ntmps13
    go_wp2_with fail
    refine (known_calls _).mono ?_
    rintro e w1 ⟨rfl, hb⟩
    have B1 := Aside0.mk hb
    clear hb
    go_wp2
    go_ret
    exact ⟨rfl, B1.out⟩
  by_cases h3 : 110000 < more
  · go_enter Try.func13, Try.ntmps13
    go_wp2_with fail
    refine (known_calls _).mono ?_
    rintro e w1 ⟨rfl, hb⟩
    have B1 := Aside0.mk hb
    clear hb
    go_wp2
    go_ret
    exact ⟨rfl, B1.out⟩
  have z1 : s.size ≤ 3000 := by omega
  obtain ⟨m, rfl⟩ : ∃ m : Nat, more = m := ⟨more.toNat, by omega⟩
  have z2 : m ≤ 110000 := by omega
  clear h1 h2 h3
  have hmk := print_make (P := Try.prog) 22 5 .u8 1 Try.underlying22 infoB (by decide) m (by omega)
  go_enter Try.func13, Try.ntmps13
  go_wp2_with fail
  refine (known_calls _).mono ?_
  rintro e w1 ⟨rfl, hb⟩
  have B1 := Aside0.mk hb
  clear hb
  go_wp2
  go_loopw [6] (fun v6 wr => ∃ i : Nat, v6 = .int .i64 i ∧ i ≤ m ∧ Aside0 (wr.ownsRow w1.heap.size 5 1 (.slice (some ⟨w1.heap.size, 0, none⟩) m m) m (nums .u8 (List.replicate i 97 ++ List.replicate (m - i) 0))) ∧ Aside0 (Below w1.heap.size w1 wr)) (fun v6 _ => (m - intOf v6).toNat)
  case atStart => exact ⟨0, rfl, by omega, ⟨own_made w1 w1.heap.size 5 .u8 m (Nat.le_refl _) (by omega)⟩, ⟨below_alloc (Below.refl _ _) _⟩⟩
  case round =>
    obtain ⟨i, rfl, hi, HO, HB⟩ := hrel
    by_cases hq : i < m
    · have hqi : (i : Int) < m := by omega
      obtain ⟨hcell, hfr⟩ := own_at HO.out (i : Int) (by omega) (by omega)
      obtain ⟨hst, hgr⟩ := own_store HO.out (i : Int) 97
      simp only [Int.toNat_natCast] at hcell hfr hst hgr
      rw [set_rep m i hq] at hst
      generalize rd (List.replicate i 97 ++ List.replicate (m - i) 0) (i : Int) = x at *
      have HST := Aside0.mk hst
      have HGB := Aside0.mk (HB.out.grown hgr HB.out.size (fun k hk => by injection hk with hk; subst hk; exact Nat.le_refl _))
      clear hst hgr HO
      go_wp2
      refine ⟨⟨i + 1, by simp, by omega, ⟨HST.out⟩, ⟨HGB.out⟩⟩, ?_⟩
      simp [intOf]
      omega
    · obtain rfl : i = m := by omega
      have hO := HO.out
      rw [Nat.sub_self, List.replicate_zero, List.append_nil] at hO
      have cs := own_string (P := Try.prog) Try.underlying22 Try.underlying5 Try.underlying9 hO
      obtain ⟨LG, hLG⟩ : ∃ LG, strOfNums (List.replicate i 97) = LG := ⟨_, rfl⟩
      have hls : LG.size = i := by rw [← hLG, strOfNums_size, List.length_replicate]
      rw [hLG] at cs
      have hsz : (LG ++ s).size ≤ 1000000 := by rw [ByteArray.size_append, hls]; omega
      obtain ⟨xs, g, hx⟩ : ∃ xs g, ptN (LG ++ s) = (xs, g) := ⟨_, _, rfl⟩
      have HX := Aside0.mk hx
      have HZ := Aside0.mk hsz
      have BB := Aside0.mk (below_step B1.out HB.out)
      have hlb : LG.size ≤ 110000 := by omega
      clear hLG hls hx hsz hO HO HB hmk
      go_wp2_with fail
      refine (Put_val _ xs g _ HZ.out HX.out).mono ?_
      rintro e w2 ⟨v2, rfl, ho, hb⟩
      have O2 := Aside0.mk ho
      have B2 := Aside0.mk (below_step BB.out hb)
      clear ho hb cs
      go_wp2_with fail
      refine (refPut_val _ xs g _ HZ.out HX.out).mono ?_
      rintro e w3 ⟨v3, rfl, ho, hb⟩
      have B3 := Aside0.mk (below_step B2.out hb)
      have c2 := own_string (P := Try.prog) Try.underlying22 Try.underlying5 Try.underlying9 (pw_own_below O2.out hb)
      have c3 := own_string (P := Try.prog) Try.underlying22 Try.underlying5 Try.underlying9 ho
      clear ho hb
      generalize strOfNums xs = X at c2 c3
      go_wp2
      go_ret
      exact ⟨rfl, B3.out⟩
end Go.Proofs.Ythghmbfbjnedfaa.Nm
