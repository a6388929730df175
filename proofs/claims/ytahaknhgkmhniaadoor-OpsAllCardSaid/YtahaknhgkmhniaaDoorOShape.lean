/- Layer 5: the walks of ops.Shape, Known, Bytes. -/
import Derived.Test.YtahaknhgkmhniaaDoorOFind
namespace Go.Proofs.YtahaknhgkmhniaaDoor.Ops
open Go Go.RowKit Go.Proofs.YtahaknhgkmhniaaDoorW.PrintWords Go.Proofs.YtahaknhgkmhniaaDoor.POpsAll
/-- Is a name among those of a list? -/
def inL (l n : ByteArray) : Bool := Go.Lib.contains l.data.toList (32 :: (n.data.toList ++ [32]))
set_option maxHeartbeats 2000000 in
set_option maxRecDepth 100000 in
theorem Shape1_val (l n : ByteArray) (B : Nat) (w : World) (henv : Env w) (hc : w.cell? ⟨B, 0, none⟩ = some (.string n)) (hl : l.size < 1000) (hn : n.size < 1000) :
    Calls Tryd.prog 23 #[.string l, .pointer (some ⟨B, 0, none⟩)] w fun e w' => e = .returned (.bool (inL l n)) ∧ w' = w := by
  obtain ⟨m, hm⟩ := henv.ml
  have HM := Aside0.mk hm
  clear henv hm
  have e1 : ((⟨#[32]⟩ ++ n ++ ⟨#[32]⟩ : ByteArray)).data.toList = 32 :: (n.data.toList ++ [32]) := by simp
  have HE := Aside0.mk e1
  clear e1
  obtain ⟨R, hR⟩ : ∃ R, inL l n = R := ⟨_, rfl⟩
  have hR2 : Go.Lib.contains l.data.toList ((⟨#[32]⟩ ++ n ++ ⟨#[32]⟩ : ByteArray)).data.toList = R := by rw [HE.out]; exact hR
  rw [hR]
  have HR := Aside0.mk hR2
  clear hR hR2 HE
  go_enter Tryd.func23, Tryd.ntmps23
  go_wp2_with fail
  refine (Tryd.strings_Contains _ _ m _ (by omega) HM.out).mono ?_
  rintro e w1 ⟨rfl, rfl⟩
  rw [HR.out]
  go_wp2
  go_ret
  exact ⟨rfl, rfl⟩
def blocksB : ByteArray := ⟨#[32, 98, 108, 111, 99, 107, 32, 108, 111, 111, 112, 32, 105, 102, 32]⟩
theorem blocksB_size : blocksB.size < 1000 := by decide +kernel
def labelsB : ByteArray := ⟨#[32, 98, 114, 32, 98, 114, 95, 105, 102, 32, 98, 114, 95, 111, 110, 95, 110, 117, 108, 108, 32, 98, 114, 95, 111, 110, 95, 110, 111, 110, 95, 110, 117, 108, 108, 32]⟩
theorem labelsB_size : labelsB.size < 1000 := by decide +kernel
def singlesB : ByteArray := ⟨#[32, 116, 104, 114, 111, 119, 32, 99, 97, 108, 108, 32, 114, 101, 116, 117, 114, 110, 95, 99, 97, 108, 108, 32, 99, 97, 108, 108, 95, 114, 101, 102, 32, 114, 101, 116, 117, 114, 110, 95, 99, 97, 108, 108, 95, 114, 101, 102, 32, 108, 111, 99, 97, 108, 46, 103, 101, 116, 32, 108, 111, 99, 97, 108, 46, 115, 101, 116, 32, 108, 111, 99, 97, 108, 46, 116, 101, 101, 32, 103, 108, 111, 98, 97, 108, 46, 103, 101, 116, 32, 103, 108, 111, 98, 97, 108, 46, 115, 101, 116, 32, 116, 97, 98, 108, 101, 46, 103, 101, 116, 32, 116, 97, 98, 108, 101, 46, 115, 101, 116, 32, 109, 101, 109, 111, 114, 121, 46, 115, 105, 122, 101, 32, 109, 101, 109, 111, 114, 121, 46, 103, 114, 111, 119, 32, 114, 101, 102, 46, 102, 117, 110, 99, 32, 115, 116, 114, 117, 99, 116, 46, 110, 101, 119, 32, 115, 116, 114, 117, 99, 116, 46, 110, 101, 119, 95, 100, 101, 102, 97, 117, 108, 116, 32, 97, 114, 114, 97, 121, 46, 110, 101, 119, 32, 97, 114, 114, 97, 121, 46, 110, 101, 119, 95, 100, 101, 102, 97, 117, 108, 116, 32, 97, 114, 114, 97, 121, 46, 103, 101, 116, 32, 97, 114, 114, 97, 121, 46, 103, 101, 116, 95, 115, 32, 97, 114, 114, 97, 121, 46, 103, 101, 116, 95, 117, 32, 97, 114, 114, 97, 121, 46, 115, 101, 116, 32, 97, 114, 114, 97, 121, 46, 102, 105, 108, 108, 32, 100, 97, 116, 97, 46, 100, 114, 111, 112, 32, 109, 101, 109, 111, 114, 121, 46, 102, 105, 108, 108, 32, 101, 108, 101, 109, 46, 100, 114, 111, 112, 32, 116, 97, 98, 108, 101, 46, 103, 114, 111, 119, 32, 116, 97, 98, 108, 101, 46, 115, 105, 122, 101, 32, 116, 97, 98, 108, 101, 46, 102, 105, 108, 108, 32]⟩
theorem singlesB_size : singlesB.size < 1000 := by decide +kernel
def pairsB : ByteArray := ⟨#[32, 99, 97, 108, 108, 95, 105, 110, 100, 105, 114, 101, 99, 116, 32, 114, 101, 116, 117, 114, 110, 95, 99, 97, 108, 108, 95, 105, 110, 100, 105, 114, 101, 99, 116, 32, 115, 116, 114, 117, 99, 116, 46, 103, 101, 116, 32, 115, 116, 114, 117, 99, 116, 46, 103, 101, 116, 95, 115, 32, 115, 116, 114, 117, 99, 116, 46, 103, 101, 116, 95, 117, 32, 115, 116, 114, 117, 99, 116, 46, 115, 101, 116, 32, 97, 114, 114, 97, 121, 46, 110, 101, 119, 95, 102, 105, 120, 101, 100, 32, 97, 114, 114, 97, 121, 46, 110, 101, 119, 95, 100, 97, 116, 97, 32, 97, 114, 114, 97, 121, 46, 110, 101, 119, 95, 101, 108, 101, 109, 32, 97, 114, 114, 97, 121, 46, 99, 111, 112, 121, 32, 97, 114, 114, 97, 121, 46, 105, 110, 105, 116, 95, 100, 97, 116, 97, 32, 97, 114, 114, 97, 121, 46, 105, 110, 105, 116, 95, 101, 108, 101, 109, 32, 109, 101, 109, 111, 114, 121, 46, 105, 110, 105, 116, 32, 109, 101, 109, 111, 114, 121, 46, 99, 111, 112, 121, 32, 116, 97, 98, 108, 101, 46, 105, 110, 105, 116, 32, 116, 97, 98, 108, 101, 46, 99, 111, 112, 121, 32]⟩
theorem pairsB_size : pairsB.size < 1000 := by decide +kernel
def heapsB : ByteArray := ⟨#[32, 114, 101, 102, 46, 110, 117, 108, 108, 32, 114, 101, 102, 46, 116, 101, 115, 116, 32, 114, 101, 102, 46, 116, 101, 115, 116, 95, 110, 117, 108, 108, 32, 114, 101, 102, 46, 99, 97, 115, 116, 32, 114, 101, 102, 46, 99, 97, 115, 116, 95, 110, 117, 108, 108, 32]⟩
theorem heapsB_size : heapsB.size < 1000 := by decide +kernel
def opBytes (op : Int) : Int := if op = 44 ∨ op = 45 ∨ op = 48 ∨ op = 49 ∨ op = 58 ∨ op = 60 then 1 else if op = 46 ∨ op = 47 ∨ op = 50 ∨ op = 51 ∨ op = 59 ∨ op = 61 then 2 else if op = 40 ∨ op = 52 ∨ op = 53 ∨ op = 54 ∨ op = 62 then 4 else if op = 41 ∨ op = 55 then 8 else 0
theorem opBytes_some (op : Int) : ops_Bytes.f 4 op = some (opBytes op) := by
  by_cases n44 : op = 44
  · subst n44; decide +kernel
  by_cases n45 : op = 45
  · subst n45; decide +kernel
  by_cases n48 : op = 48
  · subst n48; decide +kernel
  by_cases n49 : op = 49
  · subst n49; decide +kernel
  by_cases n58 : op = 58
  · subst n58; decide +kernel
  by_cases n60 : op = 60
  · subst n60; decide +kernel
  by_cases n46 : op = 46
  · subst n46; decide +kernel
  by_cases n47 : op = 47
  · subst n47; decide +kernel
  by_cases n50 : op = 50
  · subst n50; decide +kernel
  by_cases n51 : op = 51
  · subst n51; decide +kernel
  by_cases n59 : op = 59
  · subst n59; decide +kernel
  by_cases n61 : op = 61
  · subst n61; decide +kernel
  by_cases n40 : op = 40
  · subst n40; decide +kernel
  by_cases n52 : op = 52
  · subst n52; decide +kernel
  by_cases n53 : op = 53
  · subst n53; decide +kernel
  by_cases n54 : op = 54
  · subst n54; decide +kernel
  by_cases n62 : op = 62
  · subst n62; decide +kernel
  by_cases n41 : op = 41
  · subst n41; decide +kernel
  by_cases n55 : op = 55
  · subst n55; decide +kernel
  have e : ∀ c : Int, op ≠ c → (op == c) = false := fun c h => beq_eq_false_iff_ne.2 h
  unfold ops_Bytes.f opBytes
  simp only [ops_Bytes.j0, ops_Bytes.j1, ops_Bytes.j2, e _ n44, e _ n45, e _ n48, e _ n49, e _ n58, e _ n60, e _ n46, e _ n47, e _ n50, e _ n51, e _ n59, e _ n61, e _ n40, e _ n52, e _ n53, e _ n54, e _ n62, n44, n45, n48, n49, n58, n60, n46, n47, n50, n51, n59, n61, n40, n52, n53, n54, n62, n41, n55, or_self, if_false, Bool.false_eq_true]
theorem Bytes_val (op : Int) (w : World) : Calls Tryd.prog 15 #[.int .i64 op] w fun e w' => e = .returned (.int .i64 (opBytes op)) ∧ Below w.heap.size w w' := by
  refine (ops_Bytes.calls 4 op _ w (opBytes_some op)).mono ?_
  rintro e w' ⟨rfl, hd⟩
  exact ⟨rfl, hd.below⟩
def lastShape (op : Int) : Int := if op = 31 then 3 else if op = 14 then 5 else if op = 28 then 12 else if op = 65 then 9 else if op = 66 then 10 else if op = 64280 ∨ op = 64281 then 13 else 1
def nameB (op : Int) : ByteArray := ⟨(opName op).toArray⟩
def opShape (op : Int) : Int :=
  if opName op = [] then 0 else if inL blocksB (nameB op) then 2 else if inL labelsB (nameB op) then 4 else if inL singlesB (nameB op) then 6 else if inL pairsB (nameB op) then 7 else if inL heapsB (nameB op) then 11
  else if 0 < opBytes op then 8 else lastShape op
theorem nameB_size (op : Int) : (nameB op).size < 1000 := by
  have h : ∀ (l : List (Int × List UInt8)), (∀ p ∈ l, p.2.length < 100) → (look op l).length < 100 := by
    intro l
    induction l with
    | nil => intro _; simp [look]
    | cons p l ih =>
      intro h
      simp only [look]
      split
      · exact h p (by simp)
      · exact ih (fun q hq => h q (by simp [hq]))
  have hf : flat.all (fun p => decide (p.2.length < 100)) = true := by decide +kernel
  have h3 := h flat (fun p hp => by simpa using List.all_eq_true.1 hf p hp)
  have e : (nameB op).size = (opName op).length := by simp [nameB, ByteArray.size]
  have h4 : (opName op).length < 100 := h3
  omega
theorem nameB_nil (op : Int) : opName op = [] ↔ (nameB op).toList.isEmpty = true := by
  have e : (nameB op).toList = opName op := by
    rw [ByteArray.toList_eq]
    rfl
  rw [e, List.isEmpty_iff]
set_option maxHeartbeats 4000000 in
set_option maxRecDepth 100000 in
theorem Shape_val (op : Int) (w : World) (henv : Env w) : Calls Tryd.prog 13 #[.int .i64 op] w fun e w' => e = .returned (.int .i64 (opShape op)) ∧ Below w.heap.size w w' := by
  have h2 := henv.lt
  have EN := Aside0.mk henv
  clear henv
  obtain ⟨R, hR⟩ : ∃ R, opShape op = R := ⟨_, rfl⟩
  rw [hR]
  unfold opShape at hR
  have HN := Aside0.mk (Name_val op w EN.out)
  have hsz := nameB_size op
  have hnil : opName op = [] ↔ (nameB op).toList.isEmpty = true := nameB_nil op
  rw [show (⟨(opName op).toArray⟩ : ByteArray) = nameB op from rfl] at HN
  generalize hn : nameB op = n at hR HN hsz hnil
  generalize hbt : opBytes op = bt at hR
  have HBT := Aside0.mk (fun w => Bytes_val op w)
  rw [hbt] at HBT
  clear hn hbt
  go_enter Tryd.func13, Tryd.ntmps13
  go_wp2_with fail
  refine HN.out.mono ?_
  rintro e w1 ⟨rfl, hb⟩
  have B1 := Aside0.mk hb
  have E1 := Aside0.mk (EN.out.below hb h2)
  have B2 := Aside0.mk (hb.alloc hb.size (.cells #[.string n] 9))
  have E2 := Aside0.mk (E1.out.alloc (.cells #[.string n] 9))
  have c0 := Aside0.mk (show (w1.alloc (.cells #[.string n] 9)).cell? ⟨w1.heap.size, 0, none⟩ = some (.string n) by simp)
  clear hb HN EN
  by_cases hem : opName op = []
  · rw [if_pos hem] at hR
    have hq : n.toList.isEmpty = true := hnil.1 hem
    clear hnil hem HBT
    subst hR
    go_wp2
    go_ret
    exact ⟨rfl, B2.out⟩
  rw [if_neg hem] at hR
  have hq : n.toList.isEmpty = false := by
    cases h : n.toList.isEmpty with
    | true => exact absurd (hnil.2 h) hem
    | false => rfl
  clear hnil hem
  by_cases t_blocks : inL blocksB n = true
  · have h_blocks := t_blocks
    rw [if_pos t_blocks] at hR
    subst hR
    clear HBT
    go_wp2_with fail
    refine (Shape1_val blocksB n _ _ E2.out c0.out blocksB_size hsz).mono ?_
    rintro e w2 ⟨rfl, rfl⟩
    rw [h_blocks]
    go_wp2
    go_ret
    exact ⟨rfl, B2.out⟩
  rw [if_neg t_blocks] at hR
  have h_blocks : inL blocksB n = false := by simpa using t_blocks
  clear t_blocks
  by_cases t_labels : inL labelsB n = true
  · have h_labels := t_labels
    rw [if_pos t_labels] at hR
    subst hR
    clear HBT
    go_wp2_with fail
    refine (Shape1_val blocksB n _ _ E2.out c0.out blocksB_size hsz).mono ?_
    rintro e w2 ⟨rfl, rfl⟩
    rw [h_blocks]
    go_wp2_with fail
    refine (Shape1_val labelsB n _ _ E2.out c0.out labelsB_size hsz).mono ?_
    rintro e w2 ⟨rfl, rfl⟩
    rw [h_labels]
    go_wp2
    go_ret
    exact ⟨rfl, B2.out⟩
  rw [if_neg t_labels] at hR
  have h_labels : inL labelsB n = false := by simpa using t_labels
  clear t_labels
  by_cases t_singles : inL singlesB n = true
  · have h_singles := t_singles
    rw [if_pos t_singles] at hR
    subst hR
    clear HBT
    go_wp2_with fail
    refine (Shape1_val blocksB n _ _ E2.out c0.out blocksB_size hsz).mono ?_
    rintro e w2 ⟨rfl, rfl⟩
    rw [h_blocks]
    go_wp2_with fail
    refine (Shape1_val labelsB n _ _ E2.out c0.out labelsB_size hsz).mono ?_
    rintro e w2 ⟨rfl, rfl⟩
    rw [h_labels]
    go_wp2_with fail
    refine (Shape1_val singlesB n _ _ E2.out c0.out singlesB_size hsz).mono ?_
    rintro e w2 ⟨rfl, rfl⟩
    rw [h_singles]
    go_wp2
    go_ret
    exact ⟨rfl, B2.out⟩
  rw [if_neg t_singles] at hR
  have h_singles : inL singlesB n = false := by simpa using t_singles
  clear t_singles
  by_cases t_pairs : inL pairsB n = true
  · have h_pairs := t_pairs
    rw [if_pos t_pairs] at hR
    subst hR
    clear HBT
    go_wp2_with fail
    refine (Shape1_val blocksB n _ _ E2.out c0.out blocksB_size hsz).mono ?_
    rintro e w2 ⟨rfl, rfl⟩
    rw [h_blocks]
    go_wp2_with fail
    refine (Shape1_val labelsB n _ _ E2.out c0.out labelsB_size hsz).mono ?_
    rintro e w2 ⟨rfl, rfl⟩
    rw [h_labels]
    go_wp2_with fail
    refine (Shape1_val singlesB n _ _ E2.out c0.out singlesB_size hsz).mono ?_
    rintro e w2 ⟨rfl, rfl⟩
    rw [h_singles]
    go_wp2_with fail
    refine (Shape1_val pairsB n _ _ E2.out c0.out pairsB_size hsz).mono ?_
    rintro e w2 ⟨rfl, rfl⟩
    rw [h_pairs]
    go_wp2
    go_ret
    exact ⟨rfl, B2.out⟩
  rw [if_neg t_pairs] at hR
  have h_pairs : inL pairsB n = false := by simpa using t_pairs
  clear t_pairs
  by_cases t_heaps : inL heapsB n = true
  · have h_heaps := t_heaps
    rw [if_pos t_heaps] at hR
    subst hR
    clear HBT
    go_wp2_with fail
    refine (Shape1_val blocksB n _ _ E2.out c0.out blocksB_size hsz).mono ?_
    rintro e w2 ⟨rfl, rfl⟩
    rw [h_blocks]
    go_wp2_with fail
    refine (Shape1_val labelsB n _ _ E2.out c0.out labelsB_size hsz).mono ?_
    rintro e w2 ⟨rfl, rfl⟩
    rw [h_labels]
    go_wp2_with fail
    refine (Shape1_val singlesB n _ _ E2.out c0.out singlesB_size hsz).mono ?_
    rintro e w2 ⟨rfl, rfl⟩
    rw [h_singles]
    go_wp2_with fail
    refine (Shape1_val pairsB n _ _ E2.out c0.out pairsB_size hsz).mono ?_
    rintro e w2 ⟨rfl, rfl⟩
    rw [h_pairs]
    go_wp2_with fail
    refine (Shape1_val heapsB n _ _ E2.out c0.out heapsB_size hsz).mono ?_
    rintro e w2 ⟨rfl, rfl⟩
    rw [h_heaps]
    go_wp2
    go_ret
    exact ⟨rfl, B2.out⟩
  rw [if_neg t_heaps] at hR
  have h_heaps : inL heapsB n = false := by simpa using t_heaps
  clear t_heaps
  by_cases hp : 0 < bt
  · rw [if_pos hp] at hR
    subst hR
    go_wp2_with fail
    refine (Shape1_val blocksB n _ _ E2.out c0.out blocksB_size hsz).mono ?_
    rintro e w2 ⟨rfl, rfl⟩
    rw [h_blocks]
    go_wp2_with fail
    refine (Shape1_val labelsB n _ _ E2.out c0.out labelsB_size hsz).mono ?_
    rintro e w2 ⟨rfl, rfl⟩
    rw [h_labels]
    go_wp2_with fail
    refine (Shape1_val singlesB n _ _ E2.out c0.out singlesB_size hsz).mono ?_
    rintro e w2 ⟨rfl, rfl⟩
    rw [h_singles]
    go_wp2_with fail
    refine (Shape1_val pairsB n _ _ E2.out c0.out pairsB_size hsz).mono ?_
    rintro e w2 ⟨rfl, rfl⟩
    rw [h_pairs]
    go_wp2_with fail
    refine (Shape1_val heapsB n _ _ E2.out c0.out heapsB_size hsz).mono ?_
    rintro e w2 ⟨rfl, rfl⟩
    rw [h_heaps]
    go_wp2_with fail
    refine (HBT.out _).mono ?_
    rintro e w3 ⟨rfl, hb3⟩
    have B3 := Aside0.mk (B2.out.trans (hb3.mono B2.out.size))
    clear hb3
    go_wp2
    go_ret
    exact ⟨rfl, B3.out⟩
  rw [if_neg hp] at hR
  unfold lastShape at hR
  by_cases q31 : op = 31
  · rw [if_pos q31] at hR
    subst hR
    have qb : (op == 31) = true := beq_iff_eq.2 q31
    subst q31
    go_wp2_with fail
    refine (Shape1_val blocksB n _ _ E2.out c0.out blocksB_size hsz).mono ?_
    rintro e w2 ⟨rfl, rfl⟩
    rw [h_blocks]
    go_wp2_with fail
    refine (Shape1_val labelsB n _ _ E2.out c0.out labelsB_size hsz).mono ?_
    rintro e w2 ⟨rfl, rfl⟩
    rw [h_labels]
    go_wp2_with fail
    refine (Shape1_val singlesB n _ _ E2.out c0.out singlesB_size hsz).mono ?_
    rintro e w2 ⟨rfl, rfl⟩
    rw [h_singles]
    go_wp2_with fail
    refine (Shape1_val pairsB n _ _ E2.out c0.out pairsB_size hsz).mono ?_
    rintro e w2 ⟨rfl, rfl⟩
    rw [h_pairs]
    go_wp2_with fail
    refine (Shape1_val heapsB n _ _ E2.out c0.out heapsB_size hsz).mono ?_
    rintro e w2 ⟨rfl, rfl⟩
    rw [h_heaps]
    go_wp2_with fail
    refine (HBT.out _).mono ?_
    rintro e w3 ⟨rfl, hb3⟩
    have B3 := Aside0.mk (B2.out.trans (hb3.mono B2.out.size))
    clear hb3
    go_wp2
    go_ret
    exact ⟨rfl, B3.out⟩
  rw [if_neg q31] at hR
  have q31b : (op == 31) = false := beq_eq_false_iff_ne.2 q31
  clear q31
  by_cases q14 : op = 14
  · rw [if_pos q14] at hR
    subst hR
    have qb : (op == 14) = true := beq_iff_eq.2 q14
    subst q14
    go_wp2_with fail
    refine (Shape1_val blocksB n _ _ E2.out c0.out blocksB_size hsz).mono ?_
    rintro e w2 ⟨rfl, rfl⟩
    rw [h_blocks]
    go_wp2_with fail
    refine (Shape1_val labelsB n _ _ E2.out c0.out labelsB_size hsz).mono ?_
    rintro e w2 ⟨rfl, rfl⟩
    rw [h_labels]
    go_wp2_with fail
    refine (Shape1_val singlesB n _ _ E2.out c0.out singlesB_size hsz).mono ?_
    rintro e w2 ⟨rfl, rfl⟩
    rw [h_singles]
    go_wp2_with fail
    refine (Shape1_val pairsB n _ _ E2.out c0.out pairsB_size hsz).mono ?_
    rintro e w2 ⟨rfl, rfl⟩
    rw [h_pairs]
    go_wp2_with fail
    refine (Shape1_val heapsB n _ _ E2.out c0.out heapsB_size hsz).mono ?_
    rintro e w2 ⟨rfl, rfl⟩
    rw [h_heaps]
    go_wp2_with fail
    refine (HBT.out _).mono ?_
    rintro e w3 ⟨rfl, hb3⟩
    have B3 := Aside0.mk (B2.out.trans (hb3.mono B2.out.size))
    clear hb3
    go_wp2
    go_ret
    exact ⟨rfl, B3.out⟩
  rw [if_neg q14] at hR
  have q14b : (op == 14) = false := beq_eq_false_iff_ne.2 q14
  clear q14
  by_cases q28 : op = 28
  · rw [if_pos q28] at hR
    subst hR
    have qb : (op == 28) = true := beq_iff_eq.2 q28
    subst q28
    go_wp2_with fail
    refine (Shape1_val blocksB n _ _ E2.out c0.out blocksB_size hsz).mono ?_
    rintro e w2 ⟨rfl, rfl⟩
    rw [h_blocks]
    go_wp2_with fail
    refine (Shape1_val labelsB n _ _ E2.out c0.out labelsB_size hsz).mono ?_
    rintro e w2 ⟨rfl, rfl⟩
    rw [h_labels]
    go_wp2_with fail
    refine (Shape1_val singlesB n _ _ E2.out c0.out singlesB_size hsz).mono ?_
    rintro e w2 ⟨rfl, rfl⟩
    rw [h_singles]
    go_wp2_with fail
    refine (Shape1_val pairsB n _ _ E2.out c0.out pairsB_size hsz).mono ?_
    rintro e w2 ⟨rfl, rfl⟩
    rw [h_pairs]
    go_wp2_with fail
    refine (Shape1_val heapsB n _ _ E2.out c0.out heapsB_size hsz).mono ?_
    rintro e w2 ⟨rfl, rfl⟩
    rw [h_heaps]
    go_wp2_with fail
    refine (HBT.out _).mono ?_
    rintro e w3 ⟨rfl, hb3⟩
    have B3 := Aside0.mk (B2.out.trans (hb3.mono B2.out.size))
    clear hb3
    go_wp2
    go_ret
    exact ⟨rfl, B3.out⟩
  rw [if_neg q28] at hR
  have q28b : (op == 28) = false := beq_eq_false_iff_ne.2 q28
  clear q28
  by_cases q65 : op = 65
  · rw [if_pos q65] at hR
    subst hR
    have qb : (op == 65) = true := beq_iff_eq.2 q65
    subst q65
    go_wp2_with fail
    refine (Shape1_val blocksB n _ _ E2.out c0.out blocksB_size hsz).mono ?_
    rintro e w2 ⟨rfl, rfl⟩
    rw [h_blocks]
    go_wp2_with fail
    refine (Shape1_val labelsB n _ _ E2.out c0.out labelsB_size hsz).mono ?_
    rintro e w2 ⟨rfl, rfl⟩
    rw [h_labels]
    go_wp2_with fail
    refine (Shape1_val singlesB n _ _ E2.out c0.out singlesB_size hsz).mono ?_
    rintro e w2 ⟨rfl, rfl⟩
    rw [h_singles]
    go_wp2_with fail
    refine (Shape1_val pairsB n _ _ E2.out c0.out pairsB_size hsz).mono ?_
    rintro e w2 ⟨rfl, rfl⟩
    rw [h_pairs]
    go_wp2_with fail
    refine (Shape1_val heapsB n _ _ E2.out c0.out heapsB_size hsz).mono ?_
    rintro e w2 ⟨rfl, rfl⟩
    rw [h_heaps]
    go_wp2_with fail
    refine (HBT.out _).mono ?_
    rintro e w3 ⟨rfl, hb3⟩
    have B3 := Aside0.mk (B2.out.trans (hb3.mono B2.out.size))
    clear hb3
    go_wp2
    go_ret
    exact ⟨rfl, B3.out⟩
  rw [if_neg q65] at hR
  have q65b : (op == 65) = false := beq_eq_false_iff_ne.2 q65
  clear q65
  by_cases q66 : op = 66
  · rw [if_pos q66] at hR
    subst hR
    have qb : (op == 66) = true := beq_iff_eq.2 q66
    subst q66
    go_wp2_with fail
    refine (Shape1_val blocksB n _ _ E2.out c0.out blocksB_size hsz).mono ?_
    rintro e w2 ⟨rfl, rfl⟩
    rw [h_blocks]
    go_wp2_with fail
    refine (Shape1_val labelsB n _ _ E2.out c0.out labelsB_size hsz).mono ?_
    rintro e w2 ⟨rfl, rfl⟩
    rw [h_labels]
    go_wp2_with fail
    refine (Shape1_val singlesB n _ _ E2.out c0.out singlesB_size hsz).mono ?_
    rintro e w2 ⟨rfl, rfl⟩
    rw [h_singles]
    go_wp2_with fail
    refine (Shape1_val pairsB n _ _ E2.out c0.out pairsB_size hsz).mono ?_
    rintro e w2 ⟨rfl, rfl⟩
    rw [h_pairs]
    go_wp2_with fail
    refine (Shape1_val heapsB n _ _ E2.out c0.out heapsB_size hsz).mono ?_
    rintro e w2 ⟨rfl, rfl⟩
    rw [h_heaps]
    go_wp2_with fail
    refine (HBT.out _).mono ?_
    rintro e w3 ⟨rfl, hb3⟩
    have B3 := Aside0.mk (B2.out.trans (hb3.mono B2.out.size))
    clear hb3
    go_wp2
    go_ret
    exact ⟨rfl, B3.out⟩
  rw [if_neg q66] at hR
  have q66b : (op == 66) = false := beq_eq_false_iff_ne.2 q66
  clear q66
  by_cases qa : op = 64280
  · rw [if_pos (.inl qa)] at hR
    subst hR
    subst qa
    go_wp2_with fail
    refine (Shape1_val blocksB n _ _ E2.out c0.out blocksB_size hsz).mono ?_
    rintro e w2 ⟨rfl, rfl⟩
    rw [h_blocks]
    go_wp2_with fail
    refine (Shape1_val labelsB n _ _ E2.out c0.out labelsB_size hsz).mono ?_
    rintro e w2 ⟨rfl, rfl⟩
    rw [h_labels]
    go_wp2_with fail
    refine (Shape1_val singlesB n _ _ E2.out c0.out singlesB_size hsz).mono ?_
    rintro e w2 ⟨rfl, rfl⟩
    rw [h_singles]
    go_wp2_with fail
    refine (Shape1_val pairsB n _ _ E2.out c0.out pairsB_size hsz).mono ?_
    rintro e w2 ⟨rfl, rfl⟩
    rw [h_pairs]
    go_wp2_with fail
    refine (Shape1_val heapsB n _ _ E2.out c0.out heapsB_size hsz).mono ?_
    rintro e w2 ⟨rfl, rfl⟩
    rw [h_heaps]
    go_wp2_with fail
    refine (HBT.out _).mono ?_
    rintro e w3 ⟨rfl, hb3⟩
    have B3 := Aside0.mk (B2.out.trans (hb3.mono B2.out.size))
    clear hb3
    go_wp2
    go_ret
    exact ⟨rfl, B3.out⟩
  have qab : (op == 64280) = false := beq_eq_false_iff_ne.2 qa
  by_cases qc : op = 64281
  · rw [if_pos (.inr qc)] at hR
    subst hR
    subst qc
    clear qa
    go_wp2_with fail
    refine (Shape1_val blocksB n _ _ E2.out c0.out blocksB_size hsz).mono ?_
    rintro e w2 ⟨rfl, rfl⟩
    rw [h_blocks]
    go_wp2_with fail
    refine (Shape1_val labelsB n _ _ E2.out c0.out labelsB_size hsz).mono ?_
    rintro e w2 ⟨rfl, rfl⟩
    rw [h_labels]
    go_wp2_with fail
    refine (Shape1_val singlesB n _ _ E2.out c0.out singlesB_size hsz).mono ?_
    rintro e w2 ⟨rfl, rfl⟩
    rw [h_singles]
    go_wp2_with fail
    refine (Shape1_val pairsB n _ _ E2.out c0.out pairsB_size hsz).mono ?_
    rintro e w2 ⟨rfl, rfl⟩
    rw [h_pairs]
    go_wp2_with fail
    refine (Shape1_val heapsB n _ _ E2.out c0.out heapsB_size hsz).mono ?_
    rintro e w2 ⟨rfl, rfl⟩
    rw [h_heaps]
    go_wp2_with fail
    refine (HBT.out _).mono ?_
    rintro e w3 ⟨rfl, hb3⟩
    have B3 := Aside0.mk (B2.out.trans (hb3.mono B2.out.size))
    clear hb3
    go_wp2
    go_ret
    exact ⟨rfl, B3.out⟩
  have qcb : (op == 64281) = false := beq_eq_false_iff_ne.2 qc
  rw [if_neg (by omega)] at hR
  subst hR
  clear qa qc
  go_wp2_with fail
  refine (Shape1_val blocksB n _ _ E2.out c0.out blocksB_size hsz).mono ?_
  rintro e w2 ⟨rfl, rfl⟩
  rw [h_blocks]
  go_wp2_with fail
  refine (Shape1_val labelsB n _ _ E2.out c0.out labelsB_size hsz).mono ?_
  rintro e w2 ⟨rfl, rfl⟩
  rw [h_labels]
  go_wp2_with fail
  refine (Shape1_val singlesB n _ _ E2.out c0.out singlesB_size hsz).mono ?_
  rintro e w2 ⟨rfl, rfl⟩
  rw [h_singles]
  go_wp2_with fail
  refine (Shape1_val pairsB n _ _ E2.out c0.out pairsB_size hsz).mono ?_
  rintro e w2 ⟨rfl, rfl⟩
  rw [h_pairs]
  go_wp2_with fail
  refine (Shape1_val heapsB n _ _ E2.out c0.out heapsB_size hsz).mono ?_
  rintro e w2 ⟨rfl, rfl⟩
  rw [h_heaps]
  go_wp2_with fail
  refine (HBT.out _).mono ?_
  rintro e w3 ⟨rfl, hb3⟩
  have B3 := Aside0.mk (B2.out.trans (hb3.mono B2.out.size))
  clear hb3
  go_wp2
  go_ret
  exact ⟨rfl, B3.out⟩
end Go.Proofs.YtahaknhgkmhniaaDoor.Ops
