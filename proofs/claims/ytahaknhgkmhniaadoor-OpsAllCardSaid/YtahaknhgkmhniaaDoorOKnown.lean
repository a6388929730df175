/- Layer 5: the walk of ops.Known. -/
import Derived.Test.YtahaknhgkmhniaaDoorOName
namespace Go.Proofs.YtahaknhgkmhniaaDoor.Ops
open Go Go.RowKit Go.Proofs.YtahaknhgkmhniaaDoorW.PrintWords Go.Proofs.YtahaknhgkmhniaaDoor.POpsAll
def kRanges : List (Int × Int) := [(42, 43), (56, 57), (67, 68), (91, 102), (139, 166), (168, 171), (174, 191), (64512, 64519), (253, 253)]
def inR (op : Int) : List (Int × Int) → Bool
  | [] => false
  | p :: l => if p.1 ≤ op ∧ op ≤ p.2 then true else inR op l
def opKnown (op : Int) : Bool := inR op kRanges
def kArr : Array Value := #[.int .i64 42, .int .i64 43, .int .i64 56, .int .i64 57, .int .i64 67, .int .i64 68, .int .i64 91, .int .i64 102, .int .i64 139, .int .i64 166, .int .i64 168, .int .i64 171, .int .i64 174, .int .i64 191, .int .i64 64512, .int .i64 64519, .int .i64 253, .int .i64 253]
theorem kIx0 (w : World) : (Instr.index 49 (.agg #[.int .i64 42, .int .i64 43, .int .i64 56, .int .i64 57, .int .i64 67, .int .i64 68, .int .i64 91, .int .i64 102, .int .i64 139, .int .i64 166, .int .i64 168, .int .i64 171, .int .i64 174, .int .i64 191, .int .i64 64512, .int .i64 64519, .int .i64 253, .int .i64 253]) (.int .i64 0)).run Tryd.prog w = .ok (.agg #[.int .i64 42, .int .i64 43]) w := by kernel_rfl
theorem kIx1 (w : World) : (Instr.index 49 (.agg #[.int .i64 42, .int .i64 43, .int .i64 56, .int .i64 57, .int .i64 67, .int .i64 68, .int .i64 91, .int .i64 102, .int .i64 139, .int .i64 166, .int .i64 168, .int .i64 171, .int .i64 174, .int .i64 191, .int .i64 64512, .int .i64 64519, .int .i64 253, .int .i64 253]) (.int .i64 1)).run Tryd.prog w = .ok (.agg #[.int .i64 56, .int .i64 57]) w := by kernel_rfl
theorem kIx2 (w : World) : (Instr.index 49 (.agg #[.int .i64 42, .int .i64 43, .int .i64 56, .int .i64 57, .int .i64 67, .int .i64 68, .int .i64 91, .int .i64 102, .int .i64 139, .int .i64 166, .int .i64 168, .int .i64 171, .int .i64 174, .int .i64 191, .int .i64 64512, .int .i64 64519, .int .i64 253, .int .i64 253]) (.int .i64 2)).run Tryd.prog w = .ok (.agg #[.int .i64 67, .int .i64 68]) w := by kernel_rfl
theorem kIx3 (w : World) : (Instr.index 49 (.agg #[.int .i64 42, .int .i64 43, .int .i64 56, .int .i64 57, .int .i64 67, .int .i64 68, .int .i64 91, .int .i64 102, .int .i64 139, .int .i64 166, .int .i64 168, .int .i64 171, .int .i64 174, .int .i64 191, .int .i64 64512, .int .i64 64519, .int .i64 253, .int .i64 253]) (.int .i64 3)).run Tryd.prog w = .ok (.agg #[.int .i64 91, .int .i64 102]) w := by kernel_rfl
theorem kIx4 (w : World) : (Instr.index 49 (.agg #[.int .i64 42, .int .i64 43, .int .i64 56, .int .i64 57, .int .i64 67, .int .i64 68, .int .i64 91, .int .i64 102, .int .i64 139, .int .i64 166, .int .i64 168, .int .i64 171, .int .i64 174, .int .i64 191, .int .i64 64512, .int .i64 64519, .int .i64 253, .int .i64 253]) (.int .i64 4)).run Tryd.prog w = .ok (.agg #[.int .i64 139, .int .i64 166]) w := by kernel_rfl
theorem kIx5 (w : World) : (Instr.index 49 (.agg #[.int .i64 42, .int .i64 43, .int .i64 56, .int .i64 57, .int .i64 67, .int .i64 68, .int .i64 91, .int .i64 102, .int .i64 139, .int .i64 166, .int .i64 168, .int .i64 171, .int .i64 174, .int .i64 191, .int .i64 64512, .int .i64 64519, .int .i64 253, .int .i64 253]) (.int .i64 5)).run Tryd.prog w = .ok (.agg #[.int .i64 168, .int .i64 171]) w := by kernel_rfl
theorem kIx6 (w : World) : (Instr.index 49 (.agg #[.int .i64 42, .int .i64 43, .int .i64 56, .int .i64 57, .int .i64 67, .int .i64 68, .int .i64 91, .int .i64 102, .int .i64 139, .int .i64 166, .int .i64 168, .int .i64 171, .int .i64 174, .int .i64 191, .int .i64 64512, .int .i64 64519, .int .i64 253, .int .i64 253]) (.int .i64 6)).run Tryd.prog w = .ok (.agg #[.int .i64 174, .int .i64 191]) w := by kernel_rfl
theorem kIx7 (w : World) : (Instr.index 49 (.agg #[.int .i64 42, .int .i64 43, .int .i64 56, .int .i64 57, .int .i64 67, .int .i64 68, .int .i64 91, .int .i64 102, .int .i64 139, .int .i64 166, .int .i64 168, .int .i64 171, .int .i64 174, .int .i64 191, .int .i64 64512, .int .i64 64519, .int .i64 253, .int .i64 253]) (.int .i64 7)).run Tryd.prog w = .ok (.agg #[.int .i64 64512, .int .i64 64519]) w := by kernel_rfl
theorem kIx8 (w : World) : (Instr.index 49 (.agg #[.int .i64 42, .int .i64 43, .int .i64 56, .int .i64 57, .int .i64 67, .int .i64 68, .int .i64 91, .int .i64 102, .int .i64 139, .int .i64 166, .int .i64 168, .int .i64 171, .int .i64 174, .int .i64 191, .int .i64 64512, .int .i64 64519, .int .i64 253, .int .i64 253]) (.int .i64 8)).run Tryd.prog w = .ok (.agg #[.int .i64 253, .int .i64 253]) w := by kernel_rfl
set_option maxHeartbeats 4000000 in
set_option maxRecDepth 100000 in
theorem Known_val (op : Int) (w : World) : Calls Tryd.prog 14 #[.int .i64 op] w fun e w' => e = .returned (.bool (opKnown op)) ∧ Below w.heap.size w w' := by
  obtain ⟨R, hR⟩ : ∃ R, opKnown op = R := ⟨_, rfl⟩
  rw [hR]
  have HR := Aside0.mk hR
  clear hR
  go_enter Tryd.func14, Tryd.ntmps14
  go_wp2
  go_loopw [15] (fun v15 wr => ∃ k : Nat, v15 = .int .i64 k ∧ k ≤ 9 ∧ Aside0 (Below w.heap.size w wr) ∧ Aside0 (inR op (kRanges.drop k) = R)) (fun v15 _ => (9 - intOf v15).toNat)
  case atStart => exact ⟨0, rfl, by omega, ⟨Below.refl _ _⟩, HR⟩
  case round =>
    obtain ⟨k, rfl, hk, HB, HN⟩ := hrel
    have hsz := HB.out.size
    rcases (show k = 0 ∨ k = 1 ∨ k = 2 ∨ k = 3 ∨ k = 4 ∨ k = 5 ∨ k = 6 ∨ k = 7 ∨ k = 8 ∨ k = 9 by omega) with rfl | rfl | rfl | rfl | rfl | rfl | rfl | rfl | rfl | rfl
    · have h : (if ((42 : Int) ≤ op ∧ op ≤ (43 : Int)) then true else inR op (kRanges.drop 1)) = R := HN.out
      have ix := kIx0 wr
      by_cases c1 : (42 : Int) ≤ op
      · by_cases c2 : op ≤ (43 : Int)
        · rw [if_pos ⟨c1, c2⟩] at h
          subst h
          go_wp2
          go_ret
          exact ⟨rfl, HB.out.alloc hsz _⟩
        · rw [if_neg (fun q => c2 q.2)] at h
          have H := Aside0.mk h
          clear h
          go_wp2
          exact ⟨⟨1, rfl, by omega, ⟨HB.out.alloc hsz _⟩, H⟩, by simp [intOf]⟩
      · rw [if_neg (fun q => c1 q.1)] at h
        have H := Aside0.mk h
        clear h
        go_wp2
        exact ⟨⟨1, rfl, by omega, ⟨HB.out.alloc hsz _⟩, H⟩, by simp [intOf]⟩
    · have h : (if ((56 : Int) ≤ op ∧ op ≤ (57 : Int)) then true else inR op (kRanges.drop 2)) = R := HN.out
      have ix := kIx1 wr
      by_cases c1 : (56 : Int) ≤ op
      · by_cases c2 : op ≤ (57 : Int)
        · rw [if_pos ⟨c1, c2⟩] at h
          subst h
          go_wp2
          go_ret
          exact ⟨rfl, HB.out.alloc hsz _⟩
        · rw [if_neg (fun q => c2 q.2)] at h
          have H := Aside0.mk h
          clear h
          go_wp2
          exact ⟨⟨2, rfl, by omega, ⟨HB.out.alloc hsz _⟩, H⟩, by simp [intOf]⟩
      · rw [if_neg (fun q => c1 q.1)] at h
        have H := Aside0.mk h
        clear h
        go_wp2
        exact ⟨⟨2, rfl, by omega, ⟨HB.out.alloc hsz _⟩, H⟩, by simp [intOf]⟩
    · have h : (if ((67 : Int) ≤ op ∧ op ≤ (68 : Int)) then true else inR op (kRanges.drop 3)) = R := HN.out
      have ix := kIx2 wr
      by_cases c1 : (67 : Int) ≤ op
      · by_cases c2 : op ≤ (68 : Int)
        · rw [if_pos ⟨c1, c2⟩] at h
          subst h
          go_wp2
          go_ret
          exact ⟨rfl, HB.out.alloc hsz _⟩
        · rw [if_neg (fun q => c2 q.2)] at h
          have H := Aside0.mk h
          clear h
          go_wp2
          exact ⟨⟨3, rfl, by omega, ⟨HB.out.alloc hsz _⟩, H⟩, by simp [intOf]⟩
      · rw [if_neg (fun q => c1 q.1)] at h
        have H := Aside0.mk h
        clear h
        go_wp2
        exact ⟨⟨3, rfl, by omega, ⟨HB.out.alloc hsz _⟩, H⟩, by simp [intOf]⟩
    · have h : (if ((91 : Int) ≤ op ∧ op ≤ (102 : Int)) then true else inR op (kRanges.drop 4)) = R := HN.out
      have ix := kIx3 wr
      by_cases c1 : (91 : Int) ≤ op
      · by_cases c2 : op ≤ (102 : Int)
        · rw [if_pos ⟨c1, c2⟩] at h
          subst h
          go_wp2
          go_ret
          exact ⟨rfl, HB.out.alloc hsz _⟩
        · rw [if_neg (fun q => c2 q.2)] at h
          have H := Aside0.mk h
          clear h
          go_wp2
          exact ⟨⟨4, rfl, by omega, ⟨HB.out.alloc hsz _⟩, H⟩, by simp [intOf]⟩
      · rw [if_neg (fun q => c1 q.1)] at h
        have H := Aside0.mk h
        clear h
        go_wp2
        exact ⟨⟨4, rfl, by omega, ⟨HB.out.alloc hsz _⟩, H⟩, by simp [intOf]⟩
    · have h : (if ((139 : Int) ≤ op ∧ op ≤ (166 : Int)) then true else inR op (kRanges.drop 5)) = R := HN.out
      have ix := kIx4 wr
      by_cases c1 : (139 : Int) ≤ op
      · by_cases c2 : op ≤ (166 : Int)
        · rw [if_pos ⟨c1, c2⟩] at h
          subst h
          go_wp2
          go_ret
          exact ⟨rfl, HB.out.alloc hsz _⟩
        · rw [if_neg (fun q => c2 q.2)] at h
          have H := Aside0.mk h
          clear h
          go_wp2
          exact ⟨⟨5, rfl, by omega, ⟨HB.out.alloc hsz _⟩, H⟩, by simp [intOf]⟩
      · rw [if_neg (fun q => c1 q.1)] at h
        have H := Aside0.mk h
        clear h
        go_wp2
        exact ⟨⟨5, rfl, by omega, ⟨HB.out.alloc hsz _⟩, H⟩, by simp [intOf]⟩
    · have h : (if ((168 : Int) ≤ op ∧ op ≤ (171 : Int)) then true else inR op (kRanges.drop 6)) = R := HN.out
      have ix := kIx5 wr
      by_cases c1 : (168 : Int) ≤ op
      · by_cases c2 : op ≤ (171 : Int)
        · rw [if_pos ⟨c1, c2⟩] at h
          subst h
          go_wp2
          go_ret
          exact ⟨rfl, HB.out.alloc hsz _⟩
        · rw [if_neg (fun q => c2 q.2)] at h
          have H := Aside0.mk h
          clear h
          go_wp2
          exact ⟨⟨6, rfl, by omega, ⟨HB.out.alloc hsz _⟩, H⟩, by simp [intOf]⟩
      · rw [if_neg (fun q => c1 q.1)] at h
        have H := Aside0.mk h
        clear h
        go_wp2
        exact ⟨⟨6, rfl, by omega, ⟨HB.out.alloc hsz _⟩, H⟩, by simp [intOf]⟩
    · have h : (if ((174 : Int) ≤ op ∧ op ≤ (191 : Int)) then true else inR op (kRanges.drop 7)) = R := HN.out
      have ix := kIx6 wr
      by_cases c1 : (174 : Int) ≤ op
      · by_cases c2 : op ≤ (191 : Int)
        · rw [if_pos ⟨c1, c2⟩] at h
          subst h
          go_wp2
          go_ret
          exact ⟨rfl, HB.out.alloc hsz _⟩
        · rw [if_neg (fun q => c2 q.2)] at h
          have H := Aside0.mk h
          clear h
          go_wp2
          exact ⟨⟨7, rfl, by omega, ⟨HB.out.alloc hsz _⟩, H⟩, by simp [intOf]⟩
      · rw [if_neg (fun q => c1 q.1)] at h
        have H := Aside0.mk h
        clear h
        go_wp2
        exact ⟨⟨7, rfl, by omega, ⟨HB.out.alloc hsz _⟩, H⟩, by simp [intOf]⟩
    · have h : (if ((64512 : Int) ≤ op ∧ op ≤ (64519 : Int)) then true else inR op (kRanges.drop 8)) = R := HN.out
      have ix := kIx7 wr
      by_cases c1 : (64512 : Int) ≤ op
      · by_cases c2 : op ≤ (64519 : Int)
        · rw [if_pos ⟨c1, c2⟩] at h
          subst h
          go_wp2
          go_ret
          exact ⟨rfl, HB.out.alloc hsz _⟩
        · rw [if_neg (fun q => c2 q.2)] at h
          have H := Aside0.mk h
          clear h
          go_wp2
          exact ⟨⟨8, rfl, by omega, ⟨HB.out.alloc hsz _⟩, H⟩, by simp [intOf]⟩
      · rw [if_neg (fun q => c1 q.1)] at h
        have H := Aside0.mk h
        clear h
        go_wp2
        exact ⟨⟨8, rfl, by omega, ⟨HB.out.alloc hsz _⟩, H⟩, by simp [intOf]⟩
    · have h : (if ((253 : Int) ≤ op ∧ op ≤ (253 : Int)) then true else inR op (kRanges.drop 9)) = R := HN.out
      have ix := kIx8 wr
      by_cases c1 : (253 : Int) ≤ op
      · by_cases c2 : op ≤ (253 : Int)
        · rw [if_pos ⟨c1, c2⟩] at h
          subst h
          go_wp2
          go_ret
          exact ⟨rfl, HB.out.alloc hsz _⟩
        · rw [if_neg (fun q => c2 q.2)] at h
          have H := Aside0.mk h
          clear h
          go_wp2
          exact ⟨⟨9, rfl, by omega, ⟨HB.out.alloc hsz _⟩, H⟩, by simp [intOf]⟩
      · rw [if_neg (fun q => c1 q.1)] at h
        have H := Aside0.mk h
        clear h
        go_wp2
        exact ⟨⟨9, rfl, by omega, ⟨HB.out.alloc hsz _⟩, H⟩, by simp [intOf]⟩
    · have h : false = R := HN.out
      subst h
      go_wp2
      go_ret
      exact ⟨rfl, HB.out⟩
end Go.Proofs.YtahaknhgkmhniaaDoor.Ops
