/- The references' Bits, U and S come to the plain functions readU and readS, too. -/
import Derived.Test.YthghmbfbjnedfaaPLebReadsx2
import Derived.Test.YthghmbfbjnedfaaLebPlainI
import Derived.Test.YthghmbfbjnedfaaLebLawA
namespace Go.Proofs.Ythghmbfbjnedfaa.Leb
open Go.RowKit Go.Proofs.YthghmbfbjnedfaaW.PrintWords Go.Proofs.Ythghmbfbjnedfaa.Base Go.Proofs.Ythghmbfbjnedfaa.BitsA Go.Proofs.Ythghmbfbjnedfaa.Lb
open Go.Proofs.Ythghmbfbjnedfaa.PLebReads

def b7 (x : Int) : List Int := [x % 2, x / 2 % 2, x / 4 % 2, x / 8 % 2, x / 16 % 2, x / 32 % 2, x / 64 % 2]
def bits8 : List Int → List Int
  | [] => []
  | y :: c => b7 y ++ bits8 c
theorem bits8_length : ∀ c, (bits8 c).length = 7 * c.length
  | [] => rfl
  | y :: c => by simp [bits8, b7, bits8_length c]; omega
theorem bits8_append : ∀ c d, bits8 (c ++ d) = bits8 c ++ bits8 d
  | [], d => rfl
  | y :: c, d => by simp [bits8, bits8_append c d]
theorem bit_ev (x : Int) (h0 : 0 ≤ x) (h1 : x ≤ 255) (i : Nat) (hi : i < 7) : Ev (fun k => geoderef01_bit.f k x (i : Int)) ((b7 x).getD i 0) := by
  have h : ∀ i : Fin 7, ∀ x : Fin 256, geoderef01_bit.f 9 (x.val : Int) (i.val : Int) = some ((b7 (x.val : Int)).getD i.val 0) := by decide +kernel
  have := h ⟨i, hi⟩ ⟨x.toNat, by omega⟩
  simp only [Int.toNat_of_nonneg h0] at this
  exact Ev.of (g := fun k => geoderef01_bit.f k x (i : Int)) (fun k => geoderef01_bit.mono x (i : Int) k) this
theorem w64 (z : Int) (h0 : -9223372036854775808 ≤ z) (h1 : z ≤ 9223372036854775807) : wrap64 z = z := by unfold wrap64; omega
section
variable {l : List Int} {bits : Int} {sg : Bool} {i : Nat} {r : List Int × Int × Int}
theorem l1_one {all : List Int} {j : Nat} (hj : j < 7) (hi : i < l.length) (hl : all.length ≤ 1000) (h0 : 0 ≤ rd l i) (h1 : rd l i ≤ 255)
    (h : Ev (fun k => geoderef01_Bits.l1 k l bits sg (all ++ [(b7 (rd l i)).getD j 0]) i ((j + 1 : Nat) : Int)) r) : Ev (fun k => geoderef01_Bits.l1 k l bits sg all i (j : Int)) r := by
  refine Ev.step (f := fun k => (geoderef01_bit.f k (rd l i) j).bind fun t => (if all.length < 17592186044416 then (geoderef01_Bits.l1 k l bits sg (all ++ [t]) i (wrap64 ((j : Int) + 1))) else none)) (fun k => ?_) ?_
  · simp only [geoderef01_Bits.l1]
    rw [if_pos (by omega), if_pos (by omega), if_pos (by omega)]
  · refine Ev.bind (bit_ev _ h0 h1 j hj) ?_
    refine Ev.congr (fun k => ?_) h
    rw [if_pos (by omega), w64 _ (by omega) (by omega)]
    rfl
theorem l1_all {all : List Int} (hi : i < l.length) (hl : all.length ≤ 900) (h0 : 0 ≤ rd l i) (h1 : rd l i ≤ 255)
    (h : Ev (fun k => geoderef01_Bits.l1 k l bits sg (all ++ b7 (rd l i)) i 7) r) : Ev (fun k => geoderef01_Bits.l1 k l bits sg all i 0) r := by
  refine l1_one (j := 0) (by omega) hi (by omega) h0 h1 ?_
  refine l1_one (j := 1) (by omega) hi (by simp; omega) h0 h1 ?_
  refine l1_one (j := 2) (by omega) hi (by simp; omega) h0 h1 ?_
  refine l1_one (j := 3) (by omega) hi (by simp; omega) h0 h1 ?_
  refine l1_one (j := 4) (by omega) hi (by simp; omega) h0 h1 ?_
  refine l1_one (j := 5) (by omega) hi (by simp; omega) h0 h1 ?_
  refine l1_one (j := 6) (by omega) hi (by simp; omega) h0 h1 ?_
  refine Ev.congr (fun k => ?_) h
  simp [b7]
/-- What the loop over the bits beyond goes on with. -/
def restF (l : List Int) (bits : Int) (sg : Bool) (i : Nat) (all : List Int) (k : Nat) : Option (List Int × Int × Int) :=
  if rd l i < 128 then some (all, (i : Int) + 1, 0) else if 7 * ((i : Int) + 1) ≥ bits then some ([], 0, 11) else geoderef01_Bits.l0 k l bits sg all ((i : Int) + 1)
theorem l2_end {all : List Int} {must at_ : Int} (hi : i < l.length) (hi2 : i ≤ 1000) (ha : (all.length : Int) ≤ at_) (h : Ev (restF l bits sg i all) r) : Ev (fun k => geoderef01_Bits.l2 k l bits sg all i must at_) r := by
  refine Ev.step (f := restF l bits sg i all) (fun k => ?_) h
  simp only [geoderef01_Bits.l2]
  rw [if_neg (by omega), if_pos (by omega), if_pos (by omega), w64 ((i : Int) + 1) (by omega) (by omega), w64 (7 * ((i : Int) + 1)) (by omega) (by omega)]
  rfl
theorem rd_mid (pre : List Int) (x : Int) (s : Nat) (hs : s < 7) : rd (bits8 pre ++ b7 x) ((7 * pre.length + s : Nat) : Int) = (b7 x).getD s 0 := by
  unfold rd
  rw [Int.toNat_natCast, List.getD_eq_getElem?_getD, List.getElem?_append_right (by rw [bits8_length]; omega), bits8_length]
  have : 7 * pre.length + s - 7 * pre.length = s := by omega
  rw [this, ← List.getD_eq_getElem?_getD]
theorem l2_run (pre : List Int) (x must : Int) (hpi : pre.length = i) (hi : i < l.length) (hi2 : i ≤ 100) : ∀ (m s : Nat), s + m = 7 →
    ((∀ q, s ≤ q → q < 7 → (b7 x).getD q 0 = must) → Ev (restF l bits sg i (bits8 pre ++ b7 x)) r → Ev (fun k => geoderef01_Bits.l2 k l bits sg (bits8 pre ++ b7 x) i must ((7 * i + s : Nat) : Int)) r) ∧
    (¬ (∀ q, s ≤ q → q < 7 → (b7 x).getD q 0 = must) → Ev (fun k => geoderef01_Bits.l2 k l bits sg (bits8 pre ++ b7 x) i must ((7 * i + s : Nat) : Int)) ([], 0, 11))
  | 0, s, hs => by
    obtain rfl : s = 7 := by omega
    refine ⟨fun _ h => l2_end hi (by omega) (by simp [bits8_length, b7]; omega) h, fun h => absurd (fun q h1 h2 => by omega) h⟩
  | m + 1, s, hs => by
    have ih := l2_run pre x must hpi hi hi2 m (s + 1) (by omega)
    have hlen : (bits8 pre ++ b7 x).length = 7 * i + 7 := by simp [bits8_length, b7, hpi]
    have hrd := rd_mid pre x s (by omega)
    rw [hpi] at hrd
    by_cases he : (b7 x).getD s 0 = must
    · have hst : ∀ k, geoderef01_Bits.l2 (k + 1) l bits sg (bits8 pre ++ b7 x) i must ((7 * i + s : Nat) : Int) = geoderef01_Bits.l2 k l bits sg (bits8 pre ++ b7 x) i must ((7 * i + (s + 1) : Nat) : Int) := fun k => by
        conv => lhs; simp only [geoderef01_Bits.l2]
        rw [if_pos (by omega), if_pos (by omega), if_pos (by rw [hrd]; exact he), w64 _ (by omega) (by omega)]
        rfl
      refine ⟨fun h hr => Ev.step hst (ih.1 (fun q h1 h2 => h q (by omega) h2) hr), fun h => Ev.step hst (ih.2 fun h2 => h fun q h1 h3 => ?_)⟩
      rcases Nat.lt_or_ge s q with h4 | h4
      · exact h2 q (by omega) h3
      · obtain rfl : q = s := by omega
        exact he
    · refine ⟨fun h _ => absurd (h s (Nat.le_refl _) (by omega)) he, fun _ => ?_⟩
      refine Ev.step (f := fun _ => some ([], 0, 11)) (fun k => ?_) (Ev.now _)
      simp only [geoderef01_Bits.l2]
      rw [if_pos (by omega), if_pos (by omega), if_neg (by rw [hrd]; exact he)]
end
/-- The bits beyond are as they must be. -/
def chk (x : Int) (room : Nat) (must : Int) : Prop := ∀ q, room ≤ q → q < 7 → (b7 x).getD q 0 = must
instance (x : Int) (room : Nat) (must : Int) : Decidable (chk x room must) :=
  decidable_of_iff (∀ q : Fin 7, room ≤ q.val → (b7 x).getD q.val 0 = must) ⟨fun h q h1 h2 => h ⟨q, h2⟩ h1, fun h q h1 => h q.val h1 q.isLt⟩
theorem bad_chk (x : Int) (h0 : 0 ≤ x) (h1 : x ≤ 255) (room : Nat) (hr0 : 1 ≤ room) (hr : room < 7) (sg : Bool) : bad x room sg = !decide (chk x room (if sg then (b7 x).getD (room - 1) 0 else 0)) := by
  have h : ∀ r : Fin 7, ∀ sg : Bool, ∀ x : Fin 256, 1 ≤ r.val → bad (x.val : Int) (r.val : Int) sg = !decide (chk (x.val : Int) r.val (if sg then (b7 (x.val : Int)).getD (r.val - 1) 0 else 0)) := by decide +kernel
  have := h ⟨room, hr⟩ sg ⟨x.toNat, by omega⟩ hr0
  simpa only [Int.toNat_of_nonneg h0] using this
theorem l1_end {l : List Int} {bits : Int} {sg : Bool} {i : Nat} {r : List Int × Int × Int} {all : List Int} (hb0 : 1 ≤ bits) (hb1 : bits ≤ 64)
    (h : Ev (fun k => geoderef01_Bits.l2 k l bits sg all i (if sg = true ∧ bits ≤ all.length then rd all (bits - 1) else 0) bits) r) : Ev (fun k => geoderef01_Bits.l1 k l bits sg all i 7) r := by
  cases sg
  · rw [if_neg (by simp)] at h
    refine Ev.step (f := fun k => geoderef01_Bits.j2 k l bits false all i 0 false) (fun k => by simp only [geoderef01_Bits.l1]; rw [if_neg (by omega), if_neg (by simp)]) ?_
    refine Ev.step (f := fun k => geoderef01_Bits.j3 k l bits false all i 0) (fun k => by simp only [geoderef01_Bits.j2]; rw [if_neg (by simp)]) ?_
    exact Ev.step (fun k => by simp only [geoderef01_Bits.j3]) h
  · by_cases hl : bits ≤ all.length
    · rw [if_pos ⟨rfl, hl⟩] at h
      have hd : decide ((all.length : Int) ≥ bits) = true := decide_eq_true hl
      refine Ev.step (f := fun k => geoderef01_Bits.j2 k l bits true all i 0 true) (fun k => by simp only [geoderef01_Bits.l1]; rw [if_neg (by omega), if_pos trivial, hd]) ?_
      refine Ev.step (f := fun k => geoderef01_Bits.j3 k l bits true all i (rd all (bits - 1))) (fun k => by simp only [geoderef01_Bits.j2]; rw [if_pos trivial, w64 (bits - 1) (by omega) (by omega), if_pos (by omega), if_pos (by omega)]) ?_
      exact Ev.step (fun k => by simp only [geoderef01_Bits.j3]) h
    · rw [if_neg (fun h => hl h.2)] at h
      have hd : decide ((all.length : Int) ≥ bits) = false := decide_eq_false hl
      refine Ev.step (f := fun k => geoderef01_Bits.j2 k l bits true all i 0 false) (fun k => by simp only [geoderef01_Bits.l1]; rw [if_neg (by omega), if_pos trivial, hd]) ?_
      refine Ev.step (f := fun k => geoderef01_Bits.j3 k l bits true all i 0) (fun k => by simp only [geoderef01_Bits.j2]; rw [if_neg (by simp)]) ?_
      exact Ev.step (fun k => by simp only [geoderef01_Bits.j3]) h
theorem rd_at2 (q pre : List Int) (y : Int) (t : List Int) : rd (q ++ (pre ++ y :: t)) ((q.length + pre.length : Nat) : Int) = y := by
  have := rd_at (q ++ pre) y t
  simpa [List.append_assoc] using this
/-- One byte: what the reference does with it. -/
theorem l0_byte {bits : Nat} {sg : Bool} {pre t : List Int} {y : Int} {r : List Int × Int × Int} (hb1 : bits ≤ 64) (hp : 7 * pre.length < bits) (h0 : 0 ≤ y) (h1 : y ≤ 255) :
    ((bits - 7 * pre.length < 7 → bad y ((bits - 7 * pre.length : Nat) : Int) sg = false) → Ev (restF (pre ++ y :: t) bits sg pre.length (bits8 pre ++ b7 y)) r → Ev (fun k => geoderef01_Bits.l0 k (pre ++ y :: t) bits sg (bits8 pre) pre.length) r) ∧
    ((bits - 7 * pre.length < 7 ∧ bad y ((bits - 7 * pre.length : Nat) : Int) sg = true) → Ev (fun k => geoderef01_Bits.l0 k (pre ++ y :: t) bits sg (bits8 pre) pre.length) ([], 0, 11)) := by
  have hlen : pre.length < (pre ++ y :: t).length := by simp
  have hrd : rd (pre ++ y :: t) (pre.length : Int) = y := rd_at pre y t
  have hal : (bits8 pre ++ b7 y).length = 7 * pre.length + 7 := by simp [bits8_length, b7]
  have go : ∀ r, Ev (fun k => geoderef01_Bits.l2 k (pre ++ y :: t) bits sg (bits8 pre ++ b7 y) pre.length (if sg = true ∧ (bits : Int) ≤ (bits8 pre ++ b7 y).length then rd (bits8 pre ++ b7 y) ((bits : Int) - 1) else 0) bits) r → Ev (fun k => geoderef01_Bits.l0 k (pre ++ y :: t) bits sg (bits8 pre) pre.length) r := fun r h => by
    refine Ev.step (f := fun k => geoderef01_Bits.l1 k (pre ++ y :: t) bits sg (bits8 pre) pre.length 0) (fun k => by simp only [geoderef01_Bits.l0]; rw [if_neg (by omega)]) ?_
    refine l1_all hlen (by rw [bits8_length]; omega) (by rw [hrd]; exact h0) (by rw [hrd]; exact h1) ?_
    rw [hrd]
    exact l1_end (by omega) (by omega) h
  by_cases hr : bits - 7 * pre.length < 7
  · obtain ⟨room, hroom⟩ : ∃ room, room = bits - 7 * pre.length := ⟨_, rfl⟩
    have hbits : ((bits : Nat) : Int) = ((7 * pre.length + room : Nat) : Int) := by omega
    have hmust : (if sg = true ∧ (bits : Int) ≤ (bits8 pre ++ b7 y).length then rd (bits8 pre ++ b7 y) ((bits : Int) - 1) else 0) = (if sg then (b7 y).getD (room - 1) 0 else 0) := by
      have e : (bits : Int) - 1 = ((7 * pre.length + (room - 1) : Nat) : Int) := by omega
      cases sg
      · rw [if_neg (by simp), if_neg (by simp)]
      · rw [if_pos ⟨rfl, by omega⟩, if_pos rfl, e, rd_mid pre y (room - 1) (by omega)]
    have run := fun r => @l2_run (pre ++ y :: t) bits sg pre.length r pre y (if sg then (b7 y).getD (room - 1) 0 else 0) rfl hlen (by omega) (7 - room) room (by omega)
    have hbc := bad_chk y h0 h1 room (by omega) (by omega) sg
    rw [← hroom]
    refine ⟨fun hb h => go r ?_, fun hb => go _ ?_⟩
    · rw [hmust, hbits]
      rw [hbc] at hb
      have hc : chk y room (if sg then (b7 y).getD (room - 1) 0 else 0) := by simpa using hb (by omega)
      have := (run r).1 hc h
      rw [← hbits] at this ⊢
      exact this
    · rw [hmust, hbits]
      rw [hbc] at hb
      have hc : ¬ chk y room (if sg then (b7 y).getD (room - 1) 0 else 0) := by simpa using hb.2
      have := (run ([], 0, 0)).2 hc
      rw [← hbits] at this ⊢
      exact this
  · exact ⟨fun _ h => go r (l2_end hlen (by omega) (by omega) h), fun h => absurd h.1 hr⟩
theorem Bits_t (bits : Nat) (sg : Bool) (hb1 : bits ≤ 64) : ∀ (t q pre : List Int), (∀ y ∈ t, 0 ≤ y ∧ y ≤ 255) → 7 * pre.length < bits →
    (∃ e, (e = 10 ∨ e = 11) ∧ (∀ (k : Nat) (n : Int), (bits : Int) ≤ 7 * pre.length + 7 * k → rdL (q ++ (pre ++ t)) bits sg k ((q.length + pre.length : Nat) : Int) n (7 * (pre.length : Int)) = (0, 0, e)) ∧ Ev (fun k => geoderef01_Bits.l0 k (pre ++ t) bits sg (bits8 pre) pre.length) ([], 0, e)) ∨
    (∃ c x suf, t = c ++ x :: suf ∧ (∀ y ∈ c, 128 ≤ y ∧ y ≤ 255) ∧ 0 ≤ x ∧ x < 128 ∧ 7 * (pre.length + c.length) < bits ∧ (bits - 7 * (pre.length + c.length) < 7 → bad x ((bits - 7 * (pre.length + c.length) : Nat) : Int) sg = false) ∧
      Ev (fun k => geoderef01_Bits.l0 k (pre ++ t) bits sg (bits8 pre) pre.length) (bits8 (pre ++ (c ++ [x])), (pre.length : Int) + c.length + 1, 0))
  | [], q, pre, _, hp => by
    refine .inl ⟨10, .inl rfl, fun k n hk => ?_, ?_⟩
    · obtain ⟨k, rfl⟩ : ∃ j, k = j + 1 := ⟨k - 1, by omega⟩
      simp only [rdL]
      rw [if_neg (by simp)]
    · refine Ev.step (f := fun _ => some ([], 0, 10)) (fun k => ?_) (Ev.now _)
      simp only [geoderef01_Bits.l0]
      rw [if_pos (by simp)]
  | y :: t, q, pre, ht, hp => by
    obtain ⟨h0, h1⟩ := ht y (by simp)
    have hrd := rd_at2 q pre y t
    have hroom : (bits : Int) - 7 * (pre.length : Int) = ((bits - 7 * pre.length : Nat) : Int) := by omega
    have step : ∀ (k : Nat) (n : Int), rdL (q ++ (pre ++ y :: t)) bits sg (k + 1) ((q.length + pre.length : Nat) : Int) n (7 * (pre.length : Int)) =
        if bits - 7 * pre.length < 7 ∧ bad y ((bits - 7 * pre.length : Nat) : Int) sg = true then (0, 0, 11)
        else if y < 128 then (fin y n (7 * (pre.length : Int)) sg, ((q.length + pre.length : Nat) : Int) + 1, 0)
        else if (bits : Int) ≤ 7 * (pre.length : Int) + 7 then (0, 0, 11)
        else rdL (q ++ (pre ++ y :: t)) bits sg k (((q.length + pre.length : Nat) : Int) + 1) (nxt n y (7 * (pre.length : Int))) (7 * (pre.length : Int) + 7) := fun k n => by
      conv => lhs; simp only [rdL]
      rw [hrd, hroom, if_pos (by simp; omega)]
      by_cases c1 : bits - 7 * pre.length < 7 ∧ bad y ((bits - 7 * pre.length : Nat) : Int) sg = true
      · rw [if_pos ⟨by omega, c1.2⟩, if_pos c1]
      · rw [if_neg (fun h => c1 ⟨by omega, h.2⟩), if_neg c1]
        split
        · unfold fin; split <;> rfl
        · rfl
    by_cases c1 : bits - 7 * pre.length < 7 ∧ bad y ((bits - 7 * pre.length : Nat) : Int) sg = true
    · refine .inl ⟨11, .inr rfl, fun k n hk => ?_, (l0_byte (r := ([], 0, 0)) hb1 hp h0 h1).2 c1⟩
      obtain ⟨k, rfl⟩ : ∃ j, k = j + 1 := ⟨k - 1, by omega⟩
      rw [step, if_pos c1]
    · have c1' : bits - 7 * pre.length < 7 → bad y ((bits - 7 * pre.length : Nat) : Int) sg = false := fun h => Bool.eq_false_iff.2 fun h2 => c1 ⟨h, h2⟩
      have hrd0 : rd (pre ++ y :: t) (pre.length : Int) = y := rd_at pre y t
      by_cases c2 : y < 128
      · refine .inr ⟨[], y, t, rfl, by simp, h0, c2, by simpa using hp, by simpa using c1', ?_⟩
        refine (l0_byte hb1 hp h0 h1).1 c1' ?_
        refine Ev.congr (f := fun _ => some (bits8 (pre ++ ([] ++ [y])), (pre.length : Int) + (([] : List Int).length : Int) + 1, 0)) (fun k => ?_) (Ev.now _)
        unfold restF
        rw [hrd0, if_pos c2]
        simp [bits8_append, bits8]
      · by_cases c3 : (bits : Int) ≤ 7 * (pre.length : Int) + 7
        · refine .inl ⟨11, .inr rfl, fun k n hk => ?_, (l0_byte hb1 hp h0 h1).1 c1' ?_⟩
          · obtain ⟨k, rfl⟩ : ∃ j, k = j + 1 := ⟨k - 1, by omega⟩
            rw [step, if_neg c1, if_neg c2, if_pos c3]
          · refine Ev.congr (f := fun _ => some ([], 0, 11)) (fun k => ?_) (Ev.now _)
            unfold restF
            rw [hrd0, if_neg c2, if_pos (by omega)]
        · have hpl : (pre ++ [y]).length = pre.length + 1 := by simp
          have hl0 : ∀ r, Ev (fun k => geoderef01_Bits.l0 k ((pre ++ [y]) ++ t) bits sg (bits8 (pre ++ [y])) (pre ++ [y]).length) r → Ev (fun k => geoderef01_Bits.l0 k (pre ++ y :: t) bits sg (bits8 pre) pre.length) r := fun r h => by
            refine (l0_byte hb1 hp h0 h1).1 c1' ?_
            refine Ev.congr (fun k => ?_) h
            unfold restF
            rw [hrd0, if_neg c2, if_neg (by omega)]
            simp [bits8_append, bits8]
          rcases Bits_t bits sg hb1 t q (pre ++ [y]) (fun z hz => ht z (by simp [hz])) (by rw [hpl]; omega) with ⟨e, he, hr, hev⟩ | ⟨c, x, suf, e, hc, hx0, hx1, hl, hbad, hev⟩
          · refine .inl ⟨e, he, fun k n hk => ?_, hl0 _ hev⟩
            obtain ⟨k, rfl⟩ : ∃ j, k = j + 1 := ⟨k - 1, by omega⟩
            rw [step, if_neg c1, if_neg c2, if_neg c3]
            have := hr k (nxt n y (7 * (pre.length : Int))) (by rw [hpl]; omega)
            rw [hpl] at this
            have e1 : (7 * ((pre.length + 1 : Nat) : Int)) = 7 * (pre.length : Int) + 7 := by omega
            have e2 : ((q.length + (pre.length + 1) : Nat) : Int) = ((q.length + pre.length : Nat) : Int) + 1 := by omega
            rw [e1, e2] at this
            simpa [List.append_assoc] using this
          · rw [hpl] at hl hbad hev
            refine .inr ⟨y :: c, x, suf, by rw [e]; rfl, ?_, hx0, hx1, by simp; omega, ?_, ?_⟩
            · intro z hz
              rcases List.mem_cons.1 hz with rfl | hz
              · omega
              · exact hc z hz
            · have e1 : pre.length + (y :: c).length = pre.length + 1 + c.length := by simp; omega
              rw [e1]; exact hbad
            · have e1 : ((pre.length : Int) + ((y :: c).length : Int) + 1) = ((pre.length + 1 : Nat) : Int) + (c.length : Int) + 1 := by simp; omega
              have e2 : pre ++ ((y :: c) ++ [x]) = (pre ++ [y]) ++ (c ++ [x]) := by simp
              rw [e1, e2]
              refine hl0 _ ?_
              rw [hpl]; exact hev
/-- The number that bits tell. -/
def hv : List Int → Int
  | [] => 0
  | b :: c => b + 2 * hv c
theorem hv_b7 (y : Int) (c : List Int) : hv (b7 y ++ c) = y % 128 + 128 * hv c := by
  simp only [b7, List.cons_append, List.nil_append, hv]
  omega
theorem hv_bits8 : ∀ c, hv (bits8 c) = val c
  | [] => rfl
  | y :: c => by rw [bits8, hv_b7, hv_bits8 c]; rfl
theorem hv_drop (all : List Int) (m : Nat) (h : m < all.length) : hv (all.drop m) = rd all (m : Int) + 2 * hv (all.drop (m + 1)) := by
  rw [List.drop_eq_getElem_cons h, hv]
  unfold rd
  rw [Int.toNat_natCast, List.getD_eq_getElem?_getD, List.getElem?_eq_getElem h]
  rfl
theorem U_l0 (at_ cnt : Int) (all : List Int) (hl : all.length ≤ 1000) : ∀ m, m ≤ all.length → Ev (fun k => geoderef01_U.l0 k at_ all cnt (hv (all.drop m) % 18446744073709551616) ((m : Int) - 1)) (hv all % 18446744073709551616, wrap64 (at_ + cnt), 0)
  | 0, _ => by
    refine Ev.step (f := fun _ => some (hv all % 18446744073709551616, wrap64 (at_ + cnt), 0)) (fun k => ?_) (Ev.now _)
    simp only [geoderef01_U.l0]
    rw [if_neg (by omega)]
    rfl
  | m + 1, h => by
    refine Ev.step (fun k => ?_) (U_l0 at_ cnt all hl m (by omega))
    simp only [geoderef01_U.l0]
    rw [if_pos (by omega), if_pos (by omega), if_pos (by omega)]
    have e1 : ((m + 1 : Nat) : Int) - 1 = (m : Int) := by omega
    have w2 : ∀ z : Int, IntKind.u64.wrap z = z % 18446744073709551616 := fun z => by simp [IntKind.wrap, IntKind.bits, IntKind.signed]
    rw [e1, w64 ((m : Int) - 1) (by omega) (by omega), w2, w2, w2, hv_drop all m (by omega)]
    congr 1
    omega
theorem S_l0 (at_ cnt s0 : Int) (all : List Int) (hl : all.length ≤ 1000) : ∀ m, m ≤ all.length → Ev (fun k => geoderef01_S.l0 k at_ all cnt (wrap64 (s0 * 2 ^ (all.length - m) + hv (all.drop m))) ((m : Int) - 1)) (wrap64 (s0 * 2 ^ all.length + hv all), wrap64 (at_ + cnt), 0)
  | 0, _ => by
    refine Ev.step (f := fun _ => some (wrap64 (s0 * 2 ^ all.length + hv all), wrap64 (at_ + cnt), 0)) (fun k => ?_) (Ev.now _)
    simp only [geoderef01_S.l0]
    rw [if_neg (by omega)]
    rfl
  | m + 1, h => by
    refine Ev.step (fun k => ?_) (S_l0 at_ cnt s0 all hl m (by omega))
    simp only [geoderef01_S.l0]
    rw [if_pos (by omega), if_pos (by omega), if_pos (by omega)]
    have e1 : ((m + 1 : Nat) : Int) - 1 = (m : Int) := by omega
    have e2 : all.length - m = (all.length - (m + 1)) + 1 := by omega
    rw [e1, w64 ((m : Int) - 1) (by omega) (by omega), hv_drop all m (by omega), e2, Int.pow_succ, ← Int.mul_assoc]
    generalize s0 * 2 ^ (all.length - (m + 1)) = T
    congr 1
    unfold wrap64
    omega
theorem fitsU (x : Int) (room : Nat) (h0 : 0 ≤ x) (h1 : x < 128) (h : room < 7 → bad x (room : Int) false = false) : x < 2 ^ room := by
  rcases Nat.lt_or_ge room 7 with hr | hr
  · have hb := h hr
    unfold bad at hb
    split at hb
    · rename_i hz; exact beyond_pos x _ h0 h1 hz
    · simp at hb
  · have : (2 : Int) ^ 7 ≤ 2 ^ room := pow_mono hr
    have e7 : (2 : Int) ^ 7 = 128 := by decide
    omega
theorem fitsS (x : Int) (room : Nat) (hr0 : 1 ≤ room) (h0 : 0 ≤ x) (h1 : x < 128) (h : room < 7 → bad x (room : Int) true = false) : top x < 2 ^ (room - 1) ∧ -(2 ^ (room - 1)) ≤ top x := by
  rcases Nat.lt_or_ge room 7 with hr | hr
  · have hb := h hr
    rw [bad_signed x _ h0 h1 hr0 hr] at hb
    simpa using hb
  · have : (2 : Int) ^ 6 ≤ 2 ^ (room - 1) := pow_mono (by omega)
    have e7 : (2 : Int) ^ 6 = 64 := by decide
    have ht : -64 ≤ top x ∧ top x ≤ 63 := by unfold top; split <;> omega
    omega
theorem refU_read (l : List Int) (hby : ∀ y ∈ l, 0 ≤ y ∧ y ≤ 255) (hlen : l.length ≤ 140737488351232) (at_ bits : Int) : ∃ k, geoderef01_U.f k l at_ bits = some (readU l at_ bits) := by
  by_cases hv : 1 ≤ bits ∧ bits ≤ 64 ∧ 0 ≤ at_ ∧ at_ ≤ l.length
  · obtain ⟨v1, v2, v3, v4⟩ := hv
    obtain ⟨a, rfl⟩ := Int.eq_ofNat_of_zero_le v3
    obtain ⟨b, rfl⟩ := Int.eq_ofNat_of_zero_le (show 0 ≤ bits by omega)
    have hq : (l.take a).length = a := by simp; omega
    have hql : l.take a ++ l.drop a = l := List.take_append_drop a l
    have key : ∀ r, Ev (fun k => (geoderef01_Bits.f k (l.drop a) (b : Int) false).bind fun bt => (if bt.2.2 = 0 then (geoderef01_U.l0 k (a : Int) bt.1 bt.2.1 0 (wrap64 ((bt.1.length : Int) - 1))) else (some (0, 0, bt.2.2)))) r → ∃ k, geoderef01_U.f k l (a : Int) (b : Int) = some r := fun r h => by
      refine Ev.rounds (g := fun k => geoderef01_U.f k l (a : Int) (b : Int)) (Ev.step (fun k => ?_) h)
      unfold geoderef01_U.f
      have hd : decide ((a : Int) > (l.length : Int)) = false := decide_eq_false (by omega)
      rw [if_neg (by omega), if_neg (by omega), if_neg (by omega), hd]
      simp only [geoderef01_U.j0]
      rw [if_neg (by simp), if_pos (by omega), if_pos (by omega), Int.toNat_natCast]
    refine key _ ?_
    rcases Bits_t b false (by omega) (l.drop a) (l.take a) [] (fun y hy => hby y (List.mem_of_mem_drop hy)) (by simp; omega) with ⟨e, he, hr, hev⟩ | ⟨c, x, suf, e, hc, hx0, hx1, hl, hbad, hev⟩
    · refine Ev.bind (a := ([], 0, e)) hev ?_
      have h1 := hr 10 0 (by simp; omega)
      simp only [List.nil_append, hql, List.length_nil, Nat.add_zero, hq] at h1
      have h2 : readU l (a : Int) (b : Int) = (0, 0, e) := by
        unfold readU readF
        rw [if_pos ⟨v1, v2, v3, v4⟩]
        exact h1
      rw [h2]
      refine Ev.congr (f := fun _ => some (0, 0, e)) (fun k => ?_) (Ev.now _)
      rw [if_neg (by rcases he with rfl | rfl <;> decide)]
    · simp only [List.length_nil, Nat.zero_add, List.nil_append] at hl hbad hev
      refine Ev.bind (a := (bits8 (c ++ [x]), ((0 : Nat) : Int) + (c.length : Int) + 1, 0)) hev ?_
      have hfit := fitsU x (b - 7 * c.length) hx0 hx1 hbad
      have hrd := readU_enc b c x (l.take a) suf hc hx0 hx1 (by omega) hl hfit
      rw [← e, hql, hq] at hrd
      rw [hrd]
      have hal : (bits8 (c ++ [x])).length = 7 * (c.length + 1) := by rw [bits8_length]; simp
      have hU := U_l0 (a : Int) (((0 : Nat) : Int) + (c.length : Int) + 1) (bits8 (c ++ [x])) (by omega) (bits8 (c ++ [x])).length (Nat.le_refl _)
      rw [List.drop_length, hv_bits8] at hU
      have hval : 0 ≤ val (c ++ [x]) ∧ val (c ++ [x]) < 18446744073709551616 := by
        refine ⟨val_nonneg _, ?_⟩
        rw [val_append, pow_7]
        have ex : x % 128 = x := by omega
        have := val_lt c
        rw [pow_7] at this
        have a1 : 2 ^ (7 * c.length) * (x + 1) ≤ 2 ^ (7 * c.length) * 2 ^ (b - 7 * c.length) := Int.mul_le_mul_of_nonneg_left (by omega) (Int.le_of_lt (two_pow_pos _))
        rw [Int.mul_add, Int.mul_one, ← Int.pow_add] at a1
        have ee : 7 * c.length + (b - 7 * c.length) = b := by omega
        rw [ee] at a1
        have hb3 : (2 : Int) ^ b ≤ 2 ^ 64 := pow_mono (by omega)
        have e64 : (2 : Int) ^ 64 = 18446744073709551616 := by decide
        rw [ex]
        omega
      have e1 : val (c ++ [x]) % 18446744073709551616 = val (c ++ [x]) := Int.emod_eq_of_lt hval.1 hval.2
      have e2 : hv [] % 18446744073709551616 = 0 := rfl
      rw [e1, e2, w64 _ (by omega) (by omega)] at hU
      refine Ev.congr (fun k => ?_) (r := _) (by
        have e3 : (a : Int) + (((0 : Nat) : Int) + (c.length : Int) + 1) = (a : Int) + (c.length : Int) + 1 := by omega
        rw [e3] at hU
        exact hU)
      simp only
      rw [if_pos trivial, w64 _ (by omega) (by omega)]
  · have e : readU l at_ bits = (0, 0, 2) := by unfold readU readF; rw [if_neg hv]
    rw [e]
    refine ⟨1, ?_⟩
    unfold geoderef01_U.f
    have hj : geoderef01_U.j0 1 l at_ bits true = some (0, 0, 2) := by simp only [geoderef01_U.j0]; rw [if_pos trivial]
    by_cases c1 : bits < 1
    · rw [if_pos c1]; exact hj
    · by_cases c2 : bits > 64
      · rw [if_neg c1, if_pos c2]; exact hj
      · by_cases c3 : at_ < 0
        · rw [if_neg c1, if_neg c2, if_pos c3]; exact hj
        · have hd : decide (at_ > (l.length : Int)) = true := decide_eq_true (by omega)
          rw [if_neg c1, if_neg c2, if_neg c3, hd]; exact hj
end Go.Proofs.Ythghmbfbjnedfaa.Leb
