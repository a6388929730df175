/- Layer 5: the walk of the statement OpsLoads. -/
import Derived.Test.YtahaknhgkmhniaaDoorOPlain
namespace Go.Proofs.YtahaknhgkmhniaaDoor.Ops
open Go Go.RowKit Go.Proofs.YtahaknhgkmhniaaDoorW.PrintWords Go.Proofs.YtahaknhgkmhniaaDoor.POpsAll
set_option maxRecDepth 100000
theorem ix_at (s : ByteArray) (i : Nat) (h : i < s.size) (w : World) :
    (Instr.index 9 (.string s) (.int .i64 (i : Int))).run Tryd.prog w = .ok (.int .u8 ((s.data.toList.getD i 0).toNat : Int)) w := by
  rw [run_index_string (h := Tryd.underlying9), dif_pos (by omega)]
  have e : (s.data.toList.getD i 0) = s.data[i]'h := by
    rw [List.getD_eq_getElem?_getD, List.getElem?_eq_getElem (by simpa using h)]
    simp
  rw [e]
  rfl
/-- The bits that a name asks for: the digits behind its point. -/
def scan : List UInt8 → Int → Int → Int → Int
  | [], _, _, bits => bits
  | c :: l, i, pt, bits => if c.toNat = 46 then scan l (i + 1) i bits else if 0 < pt ∧ 48 ≤ c.toNat ∧ c.toNat ≤ 57 then scan l (i + 1) pt (10 * bits + (c.toNat - 48)) else scan l (i + 1) pt bits
def scanOk : List UInt8 → Int → Int → Int → Bool
  | [], _, _, bits => decide (0 ≤ bits ∧ bits ≤ 1000)
  | c :: l, i, pt, bits => decide (0 ≤ bits ∧ bits ≤ 1000) && (if c.toNat = 46 then scanOk l (i + 1) i bits else if 0 < pt ∧ 48 ≤ c.toNat ∧ c.toNat ≤ 57 then scanOk l (i + 1) pt (10 * bits + (c.toNat - 48)) else scanOk l (i + 1) pt bits)
theorem scanOk_now (l : List UInt8) (i pt bits : Int) (h : scanOk l i pt bits = true) : 0 ≤ bits ∧ bits ≤ 1000 := by
  cases l with
  | nil => simpa [scanOk] using h
  | cons c l => simp only [scanOk, Bool.and_eq_true, decide_eq_true_eq] at h; exact h.1
set_option maxHeartbeats 4000000 in
theorem OpsLoads_mem (a b : Int) (s : ByteArray) (R : Int) (w : World) (henv : Env w) (hs : s.size < 100) (h9 : 3 ≤ s.size) (hn : (⟨(opName a).toArray⟩ : ByteArray) = s) (hR : scan s.data.toList 0 0 0 = R) (hok : scanOk s.data.toList 0 0 0 = true)
    (hsh : opShape a = 8)
    (t : ByteArray) (ht : (⟨(opName b).toArray⟩ : ByteArray) = t) (hts : t.size < 1000)
    (hW : opBytes a = if R = 0 then (if (s.extract 0 3).toList = [105, 51, 50] then 4 else 8) else R / 8)
    (hC : opShape b = 8 → 8 < s.size → (s.extract 4 8).toList = [108, 111, 97, 100] → 8 < t.size → (t.extract 4 9).toList = [115, 116, 111, 114, 101] → a < b) : Calls Tryd.prog 6 #[.int .i64 a, .int .i64 b] w fun e w' => e = .returned (.bool true) ∧ Below w.heap.size w w' := by
  have h2 := henv.lt
  have EN := Aside0.mk henv
  have HB := Aside0.mk (Below.refl w.heap.size w)
  have NA := Aside0.mk (fun w => Name_val a w)
  have NB := Aside0.mk (fun w => Name_val b w)
  have SA := Aside0.mk (fun w => Shape_val a w)
  have SB := Aside0.mk (fun w => Shape_val b w)
  have BA := Aside0.mk (fun w => Bytes_val a w)
  rw [hn] at NA
  rw [hsh] at SA
  rw [ht] at NB
  have HW := Aside0.mk hW
  have HC := Aside0.mk hC
  clear hW hC ht
  have H0 := Aside0.mk (And.intro hR hok)
  clear henv hn hsh hR hok
  go_enter Tryd.func6, Tryd.ntmps6
  go_wp2_with fail
  refine (NA.out _ EN.out).mono ?_
  rintro e w1 ⟨rfl, hb⟩
  have B1 := Aside0.mk (below_step HB.out hb)
  have E1 := Aside0.mk (EN.out.below B1.out h2)
  clear hb
  go_wp2_with fail
  refine (SA.out _ E1.out).mono ?_
  rintro e w2 ⟨rfl, hb⟩
  have B2 := Aside0.mk (below_step B1.out hb)
  have E2 := Aside0.mk (EN.out.below B2.out h2)
  clear hb
  go_wp2
  go_loopw [7, 8, 9] (fun v7 v8 v9 wr => ∃ (i : Nat) (pt bits : Int), v7 = .int .i64 pt ∧ v8 = .int .i64 bits ∧ v9 = .int .i64 i ∧ wr = w2 ∧ i ≤ s.size ∧ Aside0 (scan (s.data.toList.drop i) i pt bits = R ∧ scanOk (s.data.toList.drop i) i pt bits = true)) (fun _ _ v9 _ => ((s.size : Int) - intOf v9).toNat)
  case atStart => exact ⟨0, 0, 0, rfl, rfl, rfl, rfl, by omega, H0⟩
  case round =>
    obtain ⟨i, pt, bits, rfl, rfl, rfl, rfl, hi, HS⟩ := hrel
    obtain ⟨bb0, bb1⟩ := scanOk_now _ _ _ _ HS.out.2
    by_cases hq : i < s.size
    · have qi : (i : Int) < s.size := by omega
      have ix := ix_at s i hq wr
      obtain ⟨c, hc⟩ : ∃ c, s.data.toList.getD i 0 = c := ⟨_, rfl⟩
      rw [hc] at ix
      have hd : s.data.toList.drop i = c :: s.data.toList.drop (i + 1) := by
        have hlt : i < s.data.toList.length := by simpa using hq
        rw [List.drop_eq_getElem_cons hlt, ← hc, List.getD_eq_getElem?_getD, List.getElem?_eq_getElem hlt]; rfl
      have HS2 := HS.out
      rw [hd] at HS2
      have c255 : c.toNat ≤ 255 := by have := UInt8.toNat_lt c; omega
      obtain ⟨v, hv⟩ : ∃ v, c.toNat = v := ⟨_, rfl⟩
      rw [hv] at ix c255
      simp only [scan, scanOk, hv, Bool.and_eq_true, decide_eq_true_eq] at HS2
      obtain ⟨HS3, _, HS4⟩ := HS2
      clear HS hd hc hv
      by_cases t1 : v = 46
      · rw [if_pos t1] at HS3 HS4
        subst t1
        have HS5 := Aside0.mk (And.intro HS3 HS4)
        clear HS3 HS4
        go_wp2
        exact ⟨⟨i + 1, i, bits, by simp, by simp, by simp, by simp, by omega, HS5⟩, by simp [intOf]; omega⟩
      · rw [if_neg t1] at HS3 HS4
        have t1b : ((v : Int) == 46) = false := beq_eq_false_iff_ne.2 (by omega)
        by_cases t2 : 0 < pt ∧ 48 ≤ v ∧ v ≤ 57
        · rw [if_pos t2] at HS3 HS4
          have HS5 := Aside0.mk (And.intro HS3 HS4)
          obtain ⟨u1, u2, u3⟩ := t2
          have u2i : (48 : Int) ≤ v := by omega
          have u3i : (v : Int) ≤ 57 := by omega
          clear HS3 HS4 t1 u2 u3
          go_wp2
          exact ⟨⟨i + 1, pt, 10 * bits + ((v : Int) - 48), by simp, by simp, by simp, by simp, by omega, HS5⟩, by simp [intOf]; omega⟩
        · rw [if_neg t2] at HS3 HS4
          have HS5 := Aside0.mk (And.intro HS3 HS4)
          clear HS3 HS4 t1
          by_cases u1 : 0 < pt
          · by_cases u2 : 48 ≤ v
            · have u2i : (48 : Int) ≤ v := by omega
              have u3i : ¬ (v : Int) ≤ 57 := by omega
              clear t2 u2
              go_wp2
              exact ⟨⟨i + 1, pt, bits, by simp, by simp, by simp, by simp, by omega, HS5⟩, by simp [intOf]; omega⟩
            · have u2i : ¬ (48 : Int) ≤ v := by omega
              clear t2 u2
              go_wp2
              exact ⟨⟨i + 1, pt, bits, by simp, by simp, by simp, by simp, by omega, HS5⟩, by simp [intOf]; omega⟩
          · clear t2
            go_wp2
            exact ⟨⟨i + 1, pt, bits, by simp, by simp, by simp, by simp, by omega, HS5⟩, by simp [intOf]; omega⟩
    · obtain rfl : i = s.size := by omega
      have hR : bits = R := by
        have h := HS.out.1
        have hl : s.data.toList.length = s.size := by rw [Array.length_toList]; rfl
        rw [← hl, List.drop_length] at h
        exact h
      subst hR
      clear hi hq HS H0 NA
      have hW := HW.out
      clear HW
      obtain ⟨V, hV⟩ : ∃ V, opBytes a = V := ⟨_, rfl⟩
      rw [hV] at BA hW
      obtain ⟨sb, hsb⟩ : ∃ sb, opShape b = sb := ⟨_, rfl⟩
      have hC := HC.out
      rw [hsb] at SB hC
      clear hV hsb HC
      have HK := Aside0.mk (fun w (h : Env w) => known_val w h)
      have h8 : (s.size : Int) < 100 := by omega
      have t8 : (t.size : Int) < 1000 := by omega
      have hw3 : (bits = 0 ∧ ((s.extract 0 3).toList == [105, 51, 50]) = true ∧ V = 4) ∨ (bits = 0 ∧ ((s.extract 0 3).toList == [105, 51, 50]) = false ∧ V = 8) ∨ ((bits == 0) = false ∧ V = bits / 8) := by
        by_cases zb : bits = 0
        · rw [if_pos zb] at hW
          by_cases zi : (s.extract 0 3).toList = [105, 51, 50]
          · rw [if_pos zi] at hW; exact .inl ⟨zb, by rw [zi]; rfl, hW⟩
          · rw [if_neg zi] at hW; exact .inr (.inl ⟨zb, beq_eq_false_iff_ne.2 zi, hW⟩)
        · rw [if_neg zb] at hW; exact .inr (.inr ⟨beq_eq_false_iff_ne.2 zb, hW⟩)
      have hc6 : (sb == 8) = false ∨ ((sb == 8) = true ∧ ¬ (8 : Int) < s.size) ∨ ((sb == 8) = true ∧ (8 : Int) < s.size ∧ ((s.extract 4 8).toList == [108, 111, 97, 100]) = false) ∨
          ((sb == 8) = true ∧ (8 : Int) < s.size ∧ ((s.extract 4 8).toList == [108, 111, 97, 100]) = true ∧ ¬ (8 : Int) < t.size) ∨
          ((sb == 8) = true ∧ (8 : Int) < s.size ∧ ((s.extract 4 8).toList == [108, 111, 97, 100]) = true ∧ (8 : Int) < t.size ∧ ((t.extract 4 9).toList == [115, 116, 111, 114, 101]) = false) ∨
          ((sb == 8) = true ∧ (8 : Int) < s.size ∧ ((s.extract 4 8).toList == [108, 111, 97, 100]) = true ∧ (8 : Int) < t.size ∧ ((t.extract 4 9).toList == [115, 116, 111, 114, 101]) = true ∧ a < b) := by
        cases e1 : (sb == 8) with
        | false => exact .inl rfl
        | true =>
          right
          by_cases e2 : (8 : Int) < s.size
          · right
            cases e3 : ((s.extract 4 8).toList == [108, 111, 97, 100]) with
            | false => exact .inl ⟨rfl, e2, rfl⟩
            | true =>
              right
              by_cases e4 : (8 : Int) < t.size
              · right
                cases e5 : ((t.extract 4 9).toList == [115, 116, 111, 114, 101]) with
                | false => exact .inl ⟨rfl, e2, rfl, e4, rfl⟩
                | true => exact .inr ⟨rfl, e2, rfl, e4, rfl, hC (by simpa using e1) (by omega) (by simpa using e3) (by omega) (by simpa using e5)⟩
              · exact .inl ⟨rfl, e2, rfl, e4⟩
          · exact .inl ⟨rfl, e2⟩
      clear hW hC
      have B := Aside0.mk B2.out
      clear B1 B2 E1 E2
      rcases hw3 with ⟨rfl, x1, rfl⟩ | ⟨rfl, x1, rfl⟩ | ⟨x1, rfl⟩ <;> rcases hc6 with y1 | ⟨y1, y2⟩ | ⟨y1, y2, y3⟩ | ⟨y1, y2, y3, y4⟩ | ⟨y1, y2, y3, y4, y5⟩ | ⟨y1, y2, y3, y4, y5, y6⟩
      all_goals
        try have y2b : (8 : Int) ≤ s.size := by omega
        try have y4b : (9 : Int) ≤ t.size := by omega
        go_wp2_with (first
          | (go_at_call 13; refine (SB.out _ (EN.out.below B.out h2)).mono ?_; rintro e w3 ⟨rfl, hb⟩; have BB := Aside0.mk (below_step B.out hb); clear B hb; have B := BB; clear BB)
          | (go_at_call 12; refine (NB.out _ (EN.out.below B.out h2)).mono ?_; rintro e w3 ⟨rfl, hb⟩; have BB := Aside0.mk (below_step B.out hb); clear B hb; have B := BB; clear BB)
          | (go_at_call 15; refine (BA.out _).mono ?_; rintro e w3 ⟨rfl, hb⟩; have BB := Aside0.mk (below_step B.out hb); clear B hb; have B := BB; clear BB)
          | (go_at_call 7; refine (HK.out _ (EN.out.below B.out h2)).mono ?_; rintro e w3 ⟨rfl, hb⟩; have BB := Aside0.mk (below_step B.out hb); clear B hb; have B := BB; clear BB))
        go_ret
        exact ⟨rfl, B.out⟩
theorem loads_all : memOps.all (fun a => decide ((nameB a).size < 100) && decide (3 ≤ (nameB a).size) && scanOk (nameB a).data.toList 0 0 0 &&
    decide (opBytes a = if scan (nameB a).data.toList 0 0 0 = 0 then (if ((nameB a).extract 0 3).toList = [105, 51, 50] then 4 else 8) else scan (nameB a).data.toList 0 0 0 / 8)) = true := by decide +kernel
theorem loads_pairs : memOps.all (fun a => !(decide (8 < (nameB a).size) && decide (((nameB a).extract 4 8).toList = [108, 111, 97, 100])) ||
    memOps.all (fun b => !(decide (8 < (nameB b).size) && decide (((nameB b).extract 4 9).toList = [115, 116, 111, 114, 101])) || decide (a < b))) = true := by decide +kernel
set_option maxHeartbeats 4000000 in
theorem OpsLoads_law (a b : Int) (w : World) (henv : Env w) : Calls Tryd.prog 6 #[.int .i64 a, .int .i64 b] w fun e w' => e = .returned (.bool true) ∧ Below w.heap.size w w' := by
  by_cases h8 : opShape a = 8
  · have hm := bytes_mem a ((shape_mem a).1 h8)
    have h := List.all_eq_true.1 loads_all a hm
    simp only [Bool.and_eq_true, decide_eq_true_eq] at h
    obtain ⟨⟨⟨e1, e2⟩, e3⟩, e4⟩ := h
    refine OpsLoads_mem a b (nameB a) _ w henv e1 e2 rfl rfl e3 h8 (nameB b) rfl (nameB_size b) e4 ?_
    intro f1 f2 f3 f4 f5
    have hb := bytes_mem b ((shape_mem b).1 f1)
    have g := List.all_eq_true.1 loads_pairs a hm
    rw [decide_eq_true f2, decide_eq_true f3, Bool.true_and, Bool.not_true, Bool.false_or] at g
    have g2 := List.all_eq_true.1 g b hb
    rw [decide_eq_true f4, decide_eq_true f5, Bool.true_and, Bool.not_true, Bool.false_or] at g2
    exact of_decide_eq_true g2
  · have h2 := henv.lt
    have EN := Aside0.mk henv
    have HB := Aside0.mk (Below.refl w.heap.size w)
    clear henv
    have hz : opBytes a = 0 := by
      have h : ¬ 0 < opBytes a := fun e => h8 ((shape_mem a).2 e)
      have h0 : 0 ≤ opBytes a := by
        unfold opBytes
        repeat' split
        all_goals decide
      omega
    have NA := Aside0.mk (fun w => Name_val a w)
    have SA := Aside0.mk (fun w => Shape_val a w)
    have BA := Aside0.mk (fun w => Bytes_val a w)
    rw [hz] at BA
    obtain ⟨s, hs⟩ : ∃ s, opShape a = s := ⟨_, rfl⟩
    rw [hs] at SA h8
    have q : (s == 8) = false := beq_eq_false_iff_ne.2 h8
    clear hz hs h8
    go_enter Tryd.func6, Tryd.ntmps6
    go_wp2_with fail
    refine (NA.out _ EN.out).mono ?_
    rintro e w1 ⟨rfl, hb⟩
    have B1 := Aside0.mk (below_step HB.out hb)
    have E1 := Aside0.mk (EN.out.below B1.out h2)
    clear hb
    go_wp2_with fail
    refine (SA.out _ E1.out).mono ?_
    rintro e w2 ⟨rfl, hb⟩
    have B2 := Aside0.mk (below_step B1.out hb)
    clear hb
    go_wp2_with fail
    refine (BA.out _).mono ?_
    rintro e w3 ⟨rfl, hb⟩
    have B3 := Aside0.mk (below_step B2.out hb)
    have E3 := Aside0.mk (EN.out.below B3.out h2)
    clear hb
    go_wp2_with fail
    refine (known_val _ E3.out).mono ?_
    rintro e w4 ⟨rfl, hb⟩
    have B4 := Aside0.mk (below_step B3.out hb)
    clear hb
    go_wp2
    go_ret
    exact ⟨rfl, B4.out⟩
end Go.Proofs.YtahaknhgkmhniaaDoor.Ops
