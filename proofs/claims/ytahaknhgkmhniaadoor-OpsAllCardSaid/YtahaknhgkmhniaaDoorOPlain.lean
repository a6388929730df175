/- Layer 5: plain laws: names and opcodes. No program's walk here. -/
import Derived.Test.YtahaknhgkmhniaaDoorOLaw
namespace Go.Proofs.YtahaknhgkmhniaaDoor.Ops
set_option maxRecDepth 100000
theorem look_mem (op : Int) : ∀ l : List (Int × List UInt8), look op l ≠ [] → (op, look op l) ∈ l
  | [], h => absurd rfl h
  | p :: l, h => by
    by_cases e : p.1 = op
    · subst e
      simp [look]
    · simp only [look, if_neg e] at h ⊢
      exact List.mem_cons_of_mem _ (look_mem op l h)
theorem flat_names : flat.all (fun p => decide (opName p.1 = p.2) && decide (p.2 ≠ [])) = true := by decide +kernel
def fi2 (s : List UInt8) : List (Int × List UInt8) → Int → Int
  | [], _ => -1
  | p :: l, i => if p.2 = s then i else fi2 s l (i + 1)
theorem firstIx_fi2 (s : ByteArray) (hs : s.toList ≠ []) : ∀ (l : List (Int × List UInt8)) (i : Int), (∀ p ∈ l, opName p.1 = p.2) → firstIx (pF s) (l.map Prod.fst) i = fi2 s.toList l i
  | [], _, _ => rfl
  | p :: l, i, h => by
    have hp := h p (by simp)
    have ih := firstIx_fi2 s hs l (i + 1) (fun q hq => h q (by simp [hq]))
    have hq : pF s p.1 = decide (p.2 = s.toList) := by
      unfold pF
      have h0 : s.toList.isEmpty = false := by cases h1 : s.toList with | nil => exact absurd h1 hs | cons _ _ => rfl
      rw [h0, hp]
      by_cases e : p.2 = s.toList
      · simp [e]
      · simp [e]
    simp only [List.map_cons, firstIx, fi2, hq, decide_eq_true_eq, ih]
theorem flat_find : flat.all (fun p => decide (0 ≤ fi2 p.2 flat 0) && decide (ops.getD (fi2 p.2 flat 0).toNat 0 = p.1)) = true := by decide +kernel
theorem names_all (p : Int × List UInt8) (hp : p ∈ flat) : opName p.1 = p.2 ∧ p.2 ≠ [] := by
  have h := List.all_eq_true.1 flat_names p hp
  simpa using h
theorem findOp_fi2 (s : ByteArray) (hs : s.toList ≠ []) : findOp s = if fi2 s.toList flat 0 < 0 then -1 else ops.getD (fi2 s.toList flat 0).toNat 0 := by
  have h := firstIx_fi2 s hs flat 0 (fun p hp => (names_all p hp).1)
  have h2 : firstIx (pF s) ops 0 = fi2 s.toList flat 0 := h
  unfold findOp
  rw [h2]
/-- A name is found under its opcode. -/
theorem find_name (a : Int) (s : ByteArray) (hs : s.toList = opName a) (h : opName a ≠ []) : findOp s = a := by
  have hm := look_mem a flat h
  have h2 := List.all_eq_true.1 flat_find _ hm
  simp only [Bool.and_eq_true, decide_eq_true_eq] at h2
  have hl : look a flat = s.toList := hs.symm
  rw [hl] at h2
  rw [findOp_fi2 s (by rw [hs]; exact h), if_neg (by omega)]
  exact h2.2
theorem name_inj (a b : Int) (h : opName a ≠ []) (e : opName a = opName b) : a = b := by
  have h1 := find_name a ⟨(opName a).toArray⟩ (by rw [ByteArray.toList_eq]) h
  have h2 := find_name b ⟨(opName a).toArray⟩ (by rw [ByteArray.toList_eq]; exact e) (by rw [← e]; exact h)
  rw [h1] at h2
  exact h2
theorem flat_known : flat.all (fun p => !opKnown p.1) = true := by decide +kernel
theorem name_known (a : Int) (h : opName a ≠ []) : opKnown a = false := by
  have h2 := List.all_eq_true.1 flat_known _ (look_mem a flat h)
  simpa using h2
theorem last_ne (op : Int) : lastShape op ≠ 0 ∧ lastShape op ≠ 8 := by
  unfold lastShape
  repeat' split
  all_goals decide
theorem shape_zero (a : Int) : opShape a = 0 ↔ opName a = [] := by
  unfold opShape
  constructor
  · intro h
    by_cases e : opName a = []
    · exact e
    rw [if_neg e] at h
    have := (last_ne a).1
    repeat' split at h
    all_goals first | exact absurd h (by decide) | exact absurd h this
  · intro e
    rw [if_pos e]
def memOps : List Int := [44, 45, 48, 49, 58, 60, 46, 47, 50, 51, 59, 61, 40, 52, 53, 54, 62, 41, 55]
theorem bytes_mem (a : Int) (h : 0 < opBytes a) : a ∈ memOps := by
  unfold opBytes at h
  simp only [memOps, List.mem_cons, List.not_mem_nil, or_false]
  repeat' split at h
  all_goals omega
theorem mem_shape : memOps.all (fun a => decide (opShape a = 8) && decide (0 < opBytes a)) = true := by decide +kernel
theorem shape_mem (a : Int) : opShape a = 8 ↔ 0 < opBytes a := by
  constructor
  · intro h
    unfold opShape at h
    have := (last_ne a).2
    by_cases e : 0 < opBytes a
    · exact e
    rw [if_neg e] at h
    repeat' split at h
    all_goals first | exact absurd h (by decide) | exact absurd h this
  · intro h
    have h2 := List.all_eq_true.1 mem_shape a (bytes_mem a h)
    simp only [Bool.and_eq_true, decide_eq_true_eq] at h2
    exact h2.1
end Go.Proofs.YtahaknhgkmhniaaDoor.Ops
