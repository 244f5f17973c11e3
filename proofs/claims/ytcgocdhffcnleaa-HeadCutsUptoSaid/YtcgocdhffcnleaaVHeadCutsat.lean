/- Parts of the proof of the law's row, put together: see the theorems' own lines. -/
import Derived.Test.YtcgocdhffcnleaaVHeadCutsar
import Derived.Test.YtcgocdhffcnleaaVHeadCutsas
import Derived.Test.YtcgocdhffcnleaaVHeadCutsap
import Derived.Outline
/- A part of the proofs about the head: see the theorems' own lines. -/
namespace Go.Proofs.Ytcgocdhffcnleaa.PHead
open Go Go.RowKit Go.Proofs.YtcgocdhffcnleaaW.PrintWords Go.Proofs.YtcgocdhffcnleaaW.PrintLast Go.Proofs.YtcgocdhffcnleaaW.PrintMore Go.Proofs.Ytcgocdhffcnleaa.XB Go.Proofs.Ytcgocdhffcnleaa.PHeadPlays
set_option linter.unusedVariables false
set_option linter.unusedSimpArgs false
/-! ### labels.Text -/
section
open Go.Proofs.Ytcgocdhffcnleaa.XH
def Hl.cont : List S53 → List UInt8
  | [] => []
  | x :: l => 123 :: (Hl.labT x ++ l.flatMap fun y => 44 :: Hl.labT y)
theorem Hl.cont_snoc (p : List S53) (x : S53) : Hl.cont (p ++ [x]) = Hl.cont p ++ (if p.length = 0 then 123 else 44) :: Hl.labT x := by
  cases p with
  | nil => simp [Hl.cont]
  | cons y p => simp [Hl.cont]
theorem Hl.body_flat : ∀ l : List S53, Hl.bodyT l = (l.flatMap fun y => 44 :: Hl.labT y) ++ [125]
  | [] => rfl
  | x :: l => by rw [Hl.bodyT, Hl.body_flat l, List.flatMap_cons]; simp
theorem Hl.cont_txt {l : List S53} (h : l.length ≠ 0) : Hl.cont l ++ [125] = Hl.txtB l := by
  cases l with
  | nil => exact absurd rfl h
  | cons x l => rw [Hl.cont, Hl.txtB, Hl.body_flat]; simp
theorem ba_size (s : ByteArray) : s.toList.length = s.size := by rw [Go.ByteArray.toList_eq, Array.length_toList]; rfl
theorem Hl.ok_sizes {x : S53} (h : Hl.okL x = true) : x.f0.size ≤ 64 ∧ x.f1.size ≤ 64 := by
  unfold Hl.okL labels_Name.ok at h
  simp only [Bool.and_eq_true, decide_eq_true_eq] at h
  exact ⟨h.1.1.1.1.2, h.2⟩
theorem Hl.lab_len {x : S53} (h : Hl.okL x = true) : (Hl.labT x).length ≤ 260 := by
  obtain ⟨h1, h2⟩ := Hl.ok_sizes h
  unfold Hl.labT Hl.qt
  have := Hl.enc_len x.f1.toList
  rw [ba_size] at this
  simp only [List.length_append, List.length_cons, List.length_nil, ba_size]
  omega
theorem Hl.cont_len : ∀ {l : List S53}, (∀ x ∈ l, Hl.okL x = true) → (Hl.cont l).length ≤ l.length * 261
  | [], _ => Nat.zero_le _
  | x :: l, h => by
    have h1 := Hl.lab_len (h x List.mem_cons_self)
    have h2 : ∀ l : List S53, (∀ x ∈ l, Hl.okL x = true) → (l.flatMap fun y => 44 :: Hl.labT y).length ≤ l.length * 261 := by
      intro l
      induction l with
      | nil => intro _; exact Nat.zero_le _
      | cons y l ih =>
        intro h
        have h3 := Hl.lab_len (h y List.mem_cons_self)
        have := ih (fun z hz => h z (List.mem_cons_of_mem _ hz))
        rw [List.flatMap_cons, List.length_append, List.length_cons, List.length_cons]
        omega
    have h3 := h2 l (fun z hz => h z (List.mem_cons_of_mem _ hz))
    rw [Hl.cont, List.length_cons, List.length_append, List.length_cons]
    omega
theorem ba_mk (s : ByteArray) : s = ⟨s.toList.toArray⟩ := Hl.ba_ext (by rw [Go.ByteArray.toList_eq, Go.ByteArray.toList_eq])
theorem str_add (a b : List UInt8) : (⟨a.toArray⟩ : ByteArray) ++ ⟨b.toArray⟩ = ⟨(a ++ b).toArray⟩ := by
  refine Hl.ba_ext ?_
  simp [Go.ByteArray.toList_eq]
/-- Blocks that are no builders and no rows of bytes stay. -/
def bKept (w w' : World) : Prop := ∀ (k : Nat) (cs : Array Value) (t : TypeId), w.heap[k]? = some (.cells cs t (0, 0)) → t ≠ 160 → t ≠ 5 → w'.heap[k]? = some (.cells cs t (0, 0))
theorem bKept.trans {w w1 w2 : World} (h : bKept w w1) (k : bKept w1 w2) : bKept w w2 := fun i cs t hi h1 h2 => k i cs t (h i cs t hi h1 h2) h1 h2
theorem bKept.of_below {w w' : World} (h : Below w.heap.size w w') : bKept w w' := fun k cs t hk _ _ => blk_below hk h
theorem bKept.cell {w w' : World} (h : bKept w w') {k o t : Nat} {cs : Array Value} {v : Value} (hk : w.heap[k]? = some (.cells cs t (0, 0))) (h1 : t ≠ 160) (h2 : t ≠ 5) (hc : w.cell? ⟨k, o, none⟩ = some v) : w'.cell? ⟨k, o, none⟩ = some v := by
  rw [blk_cell (h k cs t hk h1 h2)]
  rw [blk_cell hk] at hc
  exact hc
theorem bCheck (B b : Nat) (bs : List Value) (w : World) (h : Lib.IsBuilder 160 5 B b bs w) :
    Calls Try.prog 132 #[.pointer (some ⟨b, 0, none⟩)] w fun e w' => e = .returned (.tuple #[]) ∧ Lib.BuilderAt 160 5 B b (.pointer (some ⟨b, 0, none⟩)) bs w' ∧ Below B w w' ∧ bKept w w' := by
  rcases h with h | h
  · refine (Any.Builder_copyCheck_fresh { Go.Proofs.Ytcgocdhffcnleaa.bWS with } Go.Proofs.Ytcgocdhffcnleaa.bX.toX72 b w h.cell0 h.shape h.frozen0).mono ?_
    rintro e w' ⟨rfl, rfl⟩
    refine ⟨rfl, h.used _, (Below.refl B w).setCell (p := ⟨b, 0, none⟩) h.1 _, fun k cs t hk h1 h2 => ?_⟩
    obtain ⟨_, v, hb, _⟩ := h
    refine blk_far hk (p := ⟨b, 0, none⟩) ?_ _
    rintro rfl
    rw [hb] at hk
    injection hk with hk
    injection hk with _ hk _
    exact h1 hk.symm
  · refine (Any.Builder_copyCheck_used { Go.Proofs.Ytcgocdhffcnleaa.bWS with } Go.Proofs.Ytcgocdhffcnleaa.bX.toX72 b w h.cell0).mono ?_
    rintro e w' ⟨rfl, rfl⟩
    exact ⟨rfl, h, Below.refl B _, fun _ _ _ hk _ _ => hk⟩
set_option maxHeartbeats 4000000 in
set_option maxRecDepth 100000 in
theorem bWrite (B b : Nat) (l : List UInt8) (s : ByteArray) (w : World) (h : Lib.IsBuilder 160 5 B b (Lib.byteCells l) w) (hlen : l.length + s.size ≤ 140737488355328) (hBw : B ≤ w.heap.size) :
    Calls Try.prog 103 #[.pointer (some ⟨b, 0, none⟩), .string s] w fun e w' => e = .returned (.tuple #[.int .i64 s.size, .nilIface]) ∧ Lib.IsBuilder 160 5 B b (Lib.byteCells (l ++ s.toList)) w' ∧ Below B w w' ∧ bKept w w' := by
  obtain ⟨i0, hi, hz0, hz1, hz2⟩ := info_parts info5
  have hbl : (Lib.byteCells l).length = l.length := by simp [Lib.byteCells]
  have HCK := Aside0.mk (bCheck B b (Lib.byteCells l) w h)
  have HE := Aside0.mk (show Lib.byteCells l ++ Lib.strCells s = Lib.byteCells (l ++ s.toList) from by
    conv => lhs; rw [ba_mk s]
    simp [Lib.byteCells, Lib.strCells, Go.ByteArray.toList_eq])
  have HLEN := Aside0.mk (show (Lib.byteCells l).length + s.size ≤ 140737488355328 by rw [hbl]; exact hlen)
  clear h hbl
  go_enter Try.func103, Try.ntmps103
  go_upto_region 2 with (go_at_call 132; (with_reducible refine HCK.out.mono ?_); rintro e w1 ⟨rfl, h1, hb1, hk1⟩)
  obtain ⟨hB, v, hbk, hown, hne⟩ := h1
  have c1 : w1.cell? ⟨b, 1, none⟩ = some v := (blk_cell hbk 1).trans rfl
  have HBK := Aside0.mk hbk
  have HOWN := Aside0.mk hown
  have HNE := Aside0.mk hne
  have HB1 := Aside0.mk hb1
  have HK1 := Aside0.mk hk1
  have hsz := hb1.size
  clear hbk hown hne hb1 hk1
  go_wp2_with (at_builtin; refine Lib.wpList_append_own_string _ rfl _ _ 82 9 rfl B 5 i0 Try.underlying82 Try.underlying9 hi hz0 hz1 hz2 v (Lib.byteCells l).length (Lib.byteCells l) rfl HOWN.out s rfl (by have := HLEN.out; unfold maxLen; omega) HLEN.out (by omega) ?_; intro v' w2 hown' hgrow _; have d1 : w2.cell? ⟨b, 1, none⟩ = some v := (blk_cell (blk_grown HBK.out hgrow (fun e => HNE.out e.symm)) 1).trans rfl; have f1 := blk_frozen (blk_grown HBK.out hgrow (fun e => HNE.out e.symm)) 1; have HOWN2 := Aside0.mk hown'; have HG := Aside0.mk hgrow; obtain ⟨A2, cap2, e2⟩ := own_slice hown'; subst e2; clear hown' hgrow)
  go_ret2
  have hbk2 := blk_grown HBK.out HG.out (fun e => HNE.out e.symm)
  refine ⟨rfl, .inr ?_, ?_, ?_⟩
  · rw [← HE.out]
    refine Lib.BuilderAt.put (T := 160) (e := 5) hB hbk2 (bs' := Lib.byteCells l ++ Lib.strCells s) ?_ (by decide)
    have := HOWN2.out
    rw [List.length_append, Lib.strCells_length]
    exact this
  · exact ((HB1.out).grown HG.out (by omega) (fun k hk => own_base HOWN.out k hk)).setCell (p := ⟨b, 1, none⟩) hB _
  · refine HK1.out.trans (fun k cs t hk h1 h2 => ?_)
    refine blk_far (blk_grown hk HG.out ?_) (p := ⟨b, 1, none⟩) ?_ _
    · intro he
      obtain ⟨cells, hc⟩ := own_typed HOWN.out k he.symm
      rw [hc] at hk
      injection hk with hk
      injection hk with _ hk _
      exact h2 hk.symm
    · rintro rfl
      have := HBK.out
      rw [this] at hk
      injection hk with hk
      injection hk with _ hk _
      exact h1 hk.symm
theorem bString (B b : Nat) (l : List UInt8) (w : World) (h : Lib.IsBuilder 160 5 B b (Lib.byteCells l) w) (hBw : B ≤ w.heap.size) :
    Calls Try.prog 105 #[.pointer (some ⟨b, 0, none⟩)] w fun e w' => e = .returned (.string ⟨l.toArray⟩) ∧ Below B w w' :=
  Any.Builder_String_any Go.Proofs.Ytcgocdhffcnleaa.bS Go.Proofs.Ytcgocdhffcnleaa.bX2 B b l w h hBw
theorem bNew (B : Nat) (w : World) (hB : B ≤ w.heap.size) : Lib.IsBuilder 160 5 B w.heap.size (Lib.byteCells []) (w.alloc (.cells #[.pointer none, .slice none 0 0] 160)) :=
  .inl ⟨hB, .slice none 0 0, blk_new _ _, own_nil _ _ _ _, by simp [Value.ownBlock]⟩
theorem bKeep {B b : Nat} {bs : List Value} {w w' : World} (h : Lib.IsBuilder 160 5 B b bs w) (hb : Below w.heap.size w w') : Lib.IsBuilder 160 5 B b bs w' := by
  rcases h with ⟨h1, v, h2, h3, h4⟩ | ⟨h1, v, h2, h3, h4⟩
  · exact .inl ⟨h1, v, blk_below h2 hb, pw_own_below h3 hb, h4⟩
  · exact .inr ⟨h1, v, blk_below h2 hb, pw_own_below h3 hb, h4⟩
set_option maxHeartbeats 8000000 in
set_option maxRecDepth 100000 in
theorem labels_Text.calls (A0 : Option Addr) (c0 : Nat) (l : List S53) (w : World) (hC : Kd.C k53 w A0 l.length l) (hc : l.length ≤ c0) :
    Calls Try.prog 62 #[.slice A0 l.length c0] w fun e w' => e = .returned (.string (Hl.txt l)) ∧ Below w.heap.size w w' := by
  have HMAKE := Aside0.mk (labels_Make.calls A0 c0 l w hC hc)
  clear hC hc
  cases hm : Hl.mk l with
  | none =>
    have HT := Aside0.mk (show Hl.txt l = ⟨#[]⟩ from by unfold Hl.txt; rw [hm])
    have HM := Aside0.mk hm
    clear hm
    go_enter Try.func62, Try.ntmps62
    go_wp2_with (go_at_call 101; (with_reducible refine HMAKE.out.mono ?_); rintro e W1 ⟨hb1, hp⟩; rw [HM.out] at hp; dsimp only at hp; subst hp; have HB1 := Aside0.mk hb1; clear hb1)
    go_ret
    exact ⟨by rw [HT.out]; rfl, HB1.out⟩
  | some m =>
    have HT := Aside0.mk (show Hl.txt l = ⟨(Hl.txtB m).toArray⟩ from by unfold Hl.txt; rw [hm])
    have HM := Aside0.mk hm
    have HMD := Aside0.mk (Hl.mk_made hm).1
    clear hm
    go_enter Try.func62, Try.ntmps62
    go_wp2_with (go_at_call 101; (with_reducible refine HMAKE.out.mono ?_); rintro e W1 ⟨hb1, hp⟩; rw [HM.out] at hp; dsimp only at hp; obtain ⟨v, he, hr⟩ := hp; subst he; obtain ⟨Am, cm, ev⟩ := Kd.R_slice hr; subst ev; have HR := Aside0.mk hr; have HB1 := Aside0.mk hb1; clear hb1 hr)
    have hwl : ∀ (W : World), (Op.unary .not (.bool true)).run Try.prog W = .ok (.bool false) W := fun _ => rfl
    clear hwl
    obtain ⟨b, hb⟩ : ∃ b, b = W1.heap.size := ⟨_, rfl⟩
    obtain ⟨W2, hW2⟩ : ∃ W2, W2 = W1.alloc (.cells #[.pointer none, .slice none 0 0] 160) := ⟨_, rfl⟩
    have HBU := Aside0.mk (show Lib.IsBuilder 160 5 b b (Lib.byteCells (Hl.cont (m.take 0))) W2 from by rw [hb, hW2]; exact bNew _ W1 (Nat.le_refl _))
    have HB2 := Aside0.mk (show Below b W1 W2 from by rw [hb, hW2]; exact below_alloc (Below.refl _ _) _)
    rw [← hW2, ← hb]
    have HBE := Aside0.mk hb
    have hmn := (Kd.R_reads' HR.out).2.2.2.1
    clear hb hW2
    go_loopg [16] m.length (fun kx v16 wr => ∃ i : Nat, v16 = .int .i64 i ∧ i ≤ m.length ∧ m.length - i ≤ kx ∧ Aside0 (Lib.IsBuilder 160 5 b b (Lib.byteCells (Hl.cont (m.take i))) wr) ∧ Aside0 (Below b W1 wr))
    case atStart => exact ⟨0, rfl, Nat.zero_le _, Nat.le_refl _, HBU, HB2⟩
    case round =>
      clear HBU HB2
      obtain ⟨i, rfl, hi, hkx, HBU, HB⟩ := hrel
      by_cases hlt : i < m.length
      · have hltz : (i : Int) < (m.length : Int) := by omega
        have hi0 : (0 : Int) ≤ (i : Int) := by omega
        obtain ⟨ad, hA, x0, x1⟩ := at_T53 (Kd.R_reads' HR.out).2.2 (i : Int) hi0 hltz
        subst hA
        have hrd : rd_T53 m (i : Int) = m[i] := by unfold rd_T53; simp [hlt]
        obtain ⟨x, hx⟩ : ∃ x, x = m[i] := ⟨_, rfl⟩
        rw [hrd, ← hx, Int.toNat_natCast] at x0 x1
        have hbb := HB.out
        rw [HBE.out] at hbb
        have y0 := pw_cell_below hbb x0
        have y1 := pw_cell_below hbb x1
        have HOK := Aside0.mk (HMD.out.2.1 x (by rw [hx]; exact List.getElem_mem hlt))
        have HSN := Aside0.mk (show Hl.cont (m.take (i + 1)) = Hl.cont (m.take i) ++ (if i = 0 then 123 else 44) :: Hl.labT x from by
          rw [List.take_succ_eq_append_getElem hlt, Hl.cont_snoc, ← hx, List.length_take, Nat.min_eq_left (by omega)])
        have HLN := Aside0.mk (show (Hl.cont (m.take i)).length ≤ 16 * 261 from by
          have h1 := Hl.cont_len (l := m.take i) (fun y hy => HMD.out.2.1 y (List.mem_of_mem_take hy))
          have h2 := HMD.out.2.2.2
          rw [List.length_take, Nat.min_eq_left (by omega)] at h1
          omega)
        clear hrd hx x0 x1 hbb
        go_upto_region 8 with fail
        refine cwp_world ?_
        intro W3 hW3
        obtain ⟨g, hg⟩ : ∃ g, g = wr.heap.size := ⟨_, rfl⟩
        have HBK := Aside0.mk (show W3.heap[g]? = some (.cells #[.string x.f0, .string x.f1] 53 (0, 0)) by rw [hW3, hg]; exact blk_new _ _)
        have hb3 : Below wr.heap.size wr W3 := by rw [hW3]; exact below_alloc (Below.refl _ _) _
        have HBU3 := Aside0.mk (bKeep HBU.out hb3)
        have HSZ := Aside0.mk (show b ≤ wr.heap.size from by have := HB.out.size; rw [← HBE.out] at this; exact this)
        have HB3 := Aside0.mk (Below.trans HB.out (hb3.mono HSZ.out))
        have HSZ3 := Aside0.mk (Nat.le_trans HSZ.out hb3.size)
        rw [← hg]
        clear hW3 hg hb3 HBU HB y0 y1
        have HLN1 := Aside0.mk (show (Hl.cont (m.take i)).length + 1 ≤ 140737488355328 by have := HLN.out; omega)
        have HQ := Aside0.mk (quote_calls x.f1 (by have := (Hl.ok_sizes HOK.out).2; omega))
        have HLN2 := Aside0.mk (show ∀ s : UInt8, (Hl.cont (m.take i) ++ [s]).length + (x.f0 ++ ⟨#[61]⟩ ++ ⟨(Hl.qt x.f1.toList).toArray⟩ : ByteArray).size ≤ 140737488355328 from by
          intro s
          have h1 := (Hl.ok_sizes HOK.out)
          have h2 := Hl.enc_len x.f1.toList
          rw [ba_size] at h2
          have h3 := HLN.out
          rw [← ba_size, Go.ByteArray.toList_eq]
          unfold Hl.qt
          simp only [ByteArray.data_append, Array.toList_append, List.length_append, List.length_cons, List.length_nil]
          have h4 : x.f0.data.toList.length = x.f0.size := by rw [Array.length_toList]; rfl
          rw [h4]
          omega)
        have HEND := Aside0.mk (show ∀ s : UInt8, s = (if i = 0 then 123 else 44) → (Hl.cont (m.take i) ++ [s]) ++ (x.f0 ++ ⟨#[61]⟩ ++ ⟨(Hl.qt x.f1.toList).toArray⟩ : ByteArray).toList = Hl.cont (m.take (i + 1)) from by
          intro s hs
          rw [HSN.out, ← hs]
          unfold Hl.labT
          simp [Go.ByteArray.toList_eq])
        clear HSN HLN
        have i0 : ∀ W : World, (Instr.index 165 (.agg #[.string ⟨#[123]⟩, .string ⟨#[44]⟩]) (.int .i64 0)).run Try.prog W = .ok (.string ⟨#[123]⟩) W := fun _ => by kernel_rfl
        have i1 : ∀ W : World, (Instr.index 165 (.agg #[.string ⟨#[123]⟩, .string ⟨#[44]⟩]) (.int .i64 1)).run Try.prog W = .ok (.string ⟨#[44]⟩) W := fun _ => by kernel_rfl
        have him : i ≤ 9223372036854775806 := by omega
        have hz1 : ¬ 9223372036854775807 < x.f0.size + 1 := by have := (Hl.ok_sizes HOK.out).1; omega
        have hz2 : ¬ 9223372036854775807 < x.f0.size + 1 + (Hl.qt x.f1.toList).length := by
          have h1 := Hl.lab_len HOK.out
          unfold Hl.labT at h1
          rw [List.length_append, List.length_cons, ba_size] at h1
          omega
        clear HOK
        rcases Nat.eq_zero_or_pos i with h0 | h0
        · have hmin : min (i : Int) 1 = 0 := by omega
          have hi2 := Aside0.mk h0
          clear h0
          have HLN3 := Aside0.mk (HLN2.out 123)
          have HEND3 := Aside0.mk (HEND.out 123 (by rw [if_pos hi2.out]))
          clear HLN2 HEND
          have HLN2 := HLN3
          clear HLN3
          have HW := Aside0.mk (fun W h1 h2 => bWrite b b (Hl.cont (m.take i)) ⟨#[123]⟩ W h1 HLN1.out h2)
          go_upto_region 9 with (go_at_call 103; (with_reducible refine (HW.out _ HBU3.out HSZ3.out).mono ?_); rintro e W4 ⟨rfl, hu4, hb4, hk4⟩; have HBU4 := Aside0.mk (show Lib.IsBuilder 160 5 b b (Lib.byteCells (Hl.cont (m.take i) ++ [123])) W4 from by rw [show (⟨#[123]⟩ : ByteArray).toList = [123] from by rw [Go.ByteArray.toList_eq]] at hu4; exact hu4); have HB4 := Aside0.mk (Below.trans HB3.out hb4); have HSZ4 := Aside0.mk (Nat.le_trans HSZ3.out hb4.size); have HBK4 := Aside0.mk (hk4 _ _ _ HBK.out (by decide) (by decide)); have z0 : W4.cell? ⟨g, 0, none⟩ = some (.string x.f0) := (blk_cell HBK4.out 0).trans rfl; have z1 : W4.cell? ⟨g, 1, none⟩ = some (.string x.f1) := (blk_cell HBK4.out 1).trans rfl; clear hu4 hb4 hk4)
          clear HB3 HBU3 HBK HW HSZ3 HSZ HLN1
          have HBU5 := Aside0.mk (bKeep HBU4.out (below_drew1 (Below.refl _ _)))
          have HB5 := Aside0.mk (below_drew1 HB4.out)
          have HBK5 := Aside0.mk (blk_drew HBK4.out)
          have HSZ5 := Aside0.mk (show b ≤ W4.drew.heap.size from HSZ4.out)
          clear HBU4 HB4 HBK4 HSZ4
          refine start_ (n := 8) (S := fun w' => w'.cell? ⟨g, 0, none⟩ = some (.string x.f0) ∧ w'.cell? ⟨g, 1, none⟩ = some (.string x.f1)) (ds := []) #[false, false, false, false, false, false, false, false] (by kernel_rfl) rfl rfl ⟨z0, z1⟩ (fun hHeld => ?_)
          clear z0 z1
          generalize W4.drew = W5 at HBU5 HB5 HBK5 HSZ5 hHeld ⊢
          refine pure_ (i := 0) (N := (some 26)) (v := ?_) (a' := ?_) #[true, false, false, false, false, false, false, false] rfl rfl (by kernel_rfl) (fun _ _ _ h => h) (Or.inl ⟨by rfl, ?_⟩) ?_ ?_
          rotate_left
          · intro w'
            go_simp
            with_reducible rfl
          rotate_left
          · simp only [Act.put, List.setIfInBounds_toArray, List.set_cons_zero, List.set_cons_succ, i64_w, i32_w]
            rfl
          refine take_ (i := 1) (N := (some 27)) (v := ?_) (a' := ?_) #[true, true, false, false, false, false, false, false] rfl rfl (by kernel_rfl) (fun _ _ _ h => h) (Or.inl ⟨by rfl, ?_⟩) hHeld ?_ ?_
          rotate_left
          · rintro w' ⟨s0, s1⟩
            go_simp
            with_reducible rfl
          rotate_left
          · simp only [Act.put, List.setIfInBounds_toArray, List.set_cons_zero, List.set_cons_succ, i64_w, i32_w]
            rfl
          refine pure_ (i := 2) (N := (some 28)) (v := ?_) (a' := ?_) #[true, true, true, false, false, false, false, false] rfl rfl (by kernel_rfl) (fun _ _ _ h => h) (Or.inl ⟨by rfl, ?_⟩) ?_ ?_
          rotate_left
          · intro w'
            go_simp
            with_reducible rfl
          rotate_left
          · simp only [Act.put, List.setIfInBounds_toArray, List.set_cons_zero, List.set_cons_succ, i64_w, i32_w]
            rfl
          refine pure_ (i := 3) (N := (some 29)) (v := ?_) (a' := ?_) #[true, true, true, true, false, false, false, false] rfl rfl (by kernel_rfl) (fun _ _ _ h => h) (Or.inl ⟨by rfl, ?_⟩) ?_ ?_
          rotate_left
          · intro w'
            go_simp
            with_reducible rfl
          rotate_left
          · simp only [Act.put, List.setIfInBounds_toArray, List.set_cons_zero, List.set_cons_succ, i64_w, i32_w]
            rfl
          refine take_ (i := 4) (N := (some 30)) (v := ?_) (a' := ?_) #[true, true, true, true, true, false, false, false] rfl rfl (by kernel_rfl) (fun _ _ _ h => h) (Or.inl ⟨by rfl, ?_⟩) hHeld ?_ ?_
          rotate_left
          · rintro w' ⟨s0, s1⟩
            go_simp
            with_reducible rfl
          rotate_left
          · simp only [Act.put, List.setIfInBounds_toArray, List.set_cons_zero, List.set_cons_succ, i64_w, i32_w]
            rfl
          refine one_ (i := 5) (N := (some 31)) #[true, true, true, true, true, true, false, false] rfl rfl (by kernel_rfl) (by decide) (fun K hK => ?_)
          refine goes_ Try.func104 (by kernel_rfl) rfl #[.string x.f1] (by rfl) rfl rfl (by first | (simp; done) | ((try simp only [List.map_toArray, List.map_cons, List.map_nil]); first | done | rfl)) ?_
          (with_reducible refine (HQ.out _).mono ?_)
          rintro e W6 ⟨rfl, hb6⟩
          refine ⟨_, rfl, ?_⟩
          have HBU6 := Aside0.mk (bKeep HBU5.out hb6)
          have HB6 := Aside0.mk (Below.trans HB5.out (hb6.mono HSZ5.out))
          have HBK6 := Aside0.mk (blk_below HBK5.out hb6)
          have HSZ6 := Aside0.mk (Nat.le_trans HSZ5.out hb6.size)
          clear hb6 HBU5 HB5 HBK5 HSZ5
          refine hK.out _ _ ⟨(blk_cell HBK6.out 0).trans rfl, (blk_cell HBK6.out 1).trans rfl⟩ (fun hHeld => ?_)
          clear hK K
          refine norm_ (a' := ?_) ?_ ?_
          rotate_left
          · show Act.put _ (some 31) _ = _
            simp only [Act.put, List.setIfInBounds_toArray, List.set_cons_zero, List.set_cons_succ, i64_w, i32_w]
            rfl
          refine pure_ (i := 6) (N := (some 32)) (v := ?_) (a' := ?_) #[true, true, true, true, true, true, true, false] rfl rfl (by kernel_rfl) (fun _ _ _ h => h) (Or.inl ⟨by rfl, ?_⟩) ?_ ?_
          rotate_left
          · intro w'
            go_simp
            with_reducible rfl
          rotate_left
          · simp only [Act.put, List.setIfInBounds_toArray, List.set_cons_zero, List.set_cons_succ, i64_w, i32_w]
            rfl
          refine one_ (i := 7) (N := (some 33)) #[true, true, true, true, true, true, true, true] rfl rfl (by kernel_rfl) (by decide) (fun K hK => ?_)
          refine goes_ Try.func103 (by kernel_rfl) rfl #[.pointer (some ⟨b, 0, none⟩), .string (x.f0 ++ ⟨#[61]⟩ ++ ⟨(Hl.qt x.f1.toList).toArray⟩)] (by rfl) rfl rfl (by first | (simp; done) | ((try simp only [List.map_toArray, List.map_cons, List.map_nil]); first | done | rfl)) ?_
          (with_reducible refine (bWrite b b _ _ W6 HBU6.out HLN2.out HSZ6.out).mono ?_)
          rintro e W7 ⟨rfl, hu7, hb7, hk7⟩
          refine ⟨_, rfl, ?_⟩
          have HBU7 := Aside0.mk hu7
          have HB7 := Aside0.mk (Below.trans HB6.out hb7)
          clear hu7
          refine hK.out _ _ ⟨(blk_cell (hk7 _ _ _ HBK6.out (by decide) (by decide)) 0).trans rfl, (blk_cell (hk7 _ _ _ HBK6.out (by decide) (by decide)) 1).trans rfl⟩ (fun hHeld => ?_)
          clear hK K hb7 hk7
          refine norm_ (a' := ?_) ?_ ?_
          rotate_left
          · show Act.put _ (some 33) _ = _
            simp only [Act.put, List.setIfInBounds_toArray, List.set_cons_zero, List.set_cons_succ, i64_w, i32_w]
            rfl
          refine done_ (by kernel_rfl) ?_
          go_wp2_with fail
          go_roundg (m.length - (i + 1))
          case measure => omega
          case rel => exact ⟨i + 1, by go_num, hlt, Nat.le_refl _, ⟨by have := HBU7.out; rw [HEND3.out] at this; exact this⟩, HB7⟩
        · have hmin : min (i : Int) 1 = 1 := by omega
          have hi2 := Aside0.mk (show ¬ i = 0 by omega)
          clear h0
          have HLN3 := Aside0.mk (HLN2.out 44)
          have HEND3 := Aside0.mk (HEND.out 44 (by rw [if_neg hi2.out]))
          clear HLN2 HEND
          have HLN2 := HLN3
          clear HLN3
          have HW := Aside0.mk (fun W h1 h2 => bWrite b b (Hl.cont (m.take i)) ⟨#[44]⟩ W h1 HLN1.out h2)
          go_upto_region 9 with (go_at_call 103; (with_reducible refine (HW.out _ HBU3.out HSZ3.out).mono ?_); rintro e W4 ⟨rfl, hu4, hb4, hk4⟩; have HBU4 := Aside0.mk (show Lib.IsBuilder 160 5 b b (Lib.byteCells (Hl.cont (m.take i) ++ [44])) W4 from by rw [show (⟨#[44]⟩ : ByteArray).toList = [44] from by rw [Go.ByteArray.toList_eq]] at hu4; exact hu4); have HB4 := Aside0.mk (Below.trans HB3.out hb4); have HSZ4 := Aside0.mk (Nat.le_trans HSZ3.out hb4.size); have HBK4 := Aside0.mk (hk4 _ _ _ HBK.out (by decide) (by decide)); have z0 : W4.cell? ⟨g, 0, none⟩ = some (.string x.f0) := (blk_cell HBK4.out 0).trans rfl; have z1 : W4.cell? ⟨g, 1, none⟩ = some (.string x.f1) := (blk_cell HBK4.out 1).trans rfl; clear hu4 hb4 hk4)
          clear HB3 HBU3 HBK HW HSZ3 HSZ HLN1
          have HBU5 := Aside0.mk (bKeep HBU4.out (below_drew1 (Below.refl _ _)))
          have HB5 := Aside0.mk (below_drew1 HB4.out)
          have HBK5 := Aside0.mk (blk_drew HBK4.out)
          have HSZ5 := Aside0.mk (show b ≤ W4.drew.heap.size from HSZ4.out)
          clear HBU4 HB4 HBK4 HSZ4
          refine start_ (n := 8) (S := fun w' => w'.cell? ⟨g, 0, none⟩ = some (.string x.f0) ∧ w'.cell? ⟨g, 1, none⟩ = some (.string x.f1)) (ds := []) #[false, false, false, false, false, false, false, false] (by kernel_rfl) rfl rfl ⟨z0, z1⟩ (fun hHeld => ?_)
          clear z0 z1
          generalize W4.drew = W5 at HBU5 HB5 HBK5 HSZ5 hHeld ⊢
          refine pure_ (i := 0) (N := (some 26)) (v := ?_) (a' := ?_) #[true, false, false, false, false, false, false, false] rfl rfl (by kernel_rfl) (fun _ _ _ h => h) (Or.inl ⟨by rfl, ?_⟩) ?_ ?_
          rotate_left
          · intro w'
            go_simp
            with_reducible rfl
          rotate_left
          · simp only [Act.put, List.setIfInBounds_toArray, List.set_cons_zero, List.set_cons_succ, i64_w, i32_w]
            rfl
          refine take_ (i := 1) (N := (some 27)) (v := ?_) (a' := ?_) #[true, true, false, false, false, false, false, false] rfl rfl (by kernel_rfl) (fun _ _ _ h => h) (Or.inl ⟨by rfl, ?_⟩) hHeld ?_ ?_
          rotate_left
          · rintro w' ⟨s0, s1⟩
            go_simp
            with_reducible rfl
          rotate_left
          · simp only [Act.put, List.setIfInBounds_toArray, List.set_cons_zero, List.set_cons_succ, i64_w, i32_w]
            rfl
          refine pure_ (i := 2) (N := (some 28)) (v := ?_) (a' := ?_) #[true, true, true, false, false, false, false, false] rfl rfl (by kernel_rfl) (fun _ _ _ h => h) (Or.inl ⟨by rfl, ?_⟩) ?_ ?_
          rotate_left
          · intro w'
            go_simp
            with_reducible rfl
          rotate_left
          · simp only [Act.put, List.setIfInBounds_toArray, List.set_cons_zero, List.set_cons_succ, i64_w, i32_w]
            rfl
          refine pure_ (i := 3) (N := (some 29)) (v := ?_) (a' := ?_) #[true, true, true, true, false, false, false, false] rfl rfl (by kernel_rfl) (fun _ _ _ h => h) (Or.inl ⟨by rfl, ?_⟩) ?_ ?_
          rotate_left
          · intro w'
            go_simp
            with_reducible rfl
          rotate_left
          · simp only [Act.put, List.setIfInBounds_toArray, List.set_cons_zero, List.set_cons_succ, i64_w, i32_w]
            rfl
          refine take_ (i := 4) (N := (some 30)) (v := ?_) (a' := ?_) #[true, true, true, true, true, false, false, false] rfl rfl (by kernel_rfl) (fun _ _ _ h => h) (Or.inl ⟨by rfl, ?_⟩) hHeld ?_ ?_
          rotate_left
          · rintro w' ⟨s0, s1⟩
            go_simp
            with_reducible rfl
          rotate_left
          · simp only [Act.put, List.setIfInBounds_toArray, List.set_cons_zero, List.set_cons_succ, i64_w, i32_w]
            rfl
          refine one_ (i := 5) (N := (some 31)) #[true, true, true, true, true, true, false, false] rfl rfl (by kernel_rfl) (by decide) (fun K hK => ?_)
          refine goes_ Try.func104 (by kernel_rfl) rfl #[.string x.f1] (by rfl) rfl rfl (by first | (simp; done) | ((try simp only [List.map_toArray, List.map_cons, List.map_nil]); first | done | rfl)) ?_
          (with_reducible refine (HQ.out _).mono ?_)
          rintro e W6 ⟨rfl, hb6⟩
          refine ⟨_, rfl, ?_⟩
          have HBU6 := Aside0.mk (bKeep HBU5.out hb6)
          have HB6 := Aside0.mk (Below.trans HB5.out (hb6.mono HSZ5.out))
          have HBK6 := Aside0.mk (blk_below HBK5.out hb6)
          have HSZ6 := Aside0.mk (Nat.le_trans HSZ5.out hb6.size)
          clear hb6 HBU5 HB5 HBK5 HSZ5
          refine hK.out _ _ ⟨(blk_cell HBK6.out 0).trans rfl, (blk_cell HBK6.out 1).trans rfl⟩ (fun hHeld => ?_)
          clear hK K
          refine norm_ (a' := ?_) ?_ ?_
          rotate_left
          · show Act.put _ (some 31) _ = _
            simp only [Act.put, List.setIfInBounds_toArray, List.set_cons_zero, List.set_cons_succ, i64_w, i32_w]
            rfl
          refine pure_ (i := 6) (N := (some 32)) (v := ?_) (a' := ?_) #[true, true, true, true, true, true, true, false] rfl rfl (by kernel_rfl) (fun _ _ _ h => h) (Or.inl ⟨by rfl, ?_⟩) ?_ ?_
          rotate_left
          · intro w'
            go_simp
            with_reducible rfl
          rotate_left
          · simp only [Act.put, List.setIfInBounds_toArray, List.set_cons_zero, List.set_cons_succ, i64_w, i32_w]
            rfl
          refine one_ (i := 7) (N := (some 33)) #[true, true, true, true, true, true, true, true] rfl rfl (by kernel_rfl) (by decide) (fun K hK => ?_)
          refine goes_ Try.func103 (by kernel_rfl) rfl #[.pointer (some ⟨b, 0, none⟩), .string (x.f0 ++ ⟨#[61]⟩ ++ ⟨(Hl.qt x.f1.toList).toArray⟩)] (by rfl) rfl rfl (by first | (simp; done) | ((try simp only [List.map_toArray, List.map_cons, List.map_nil]); first | done | rfl)) ?_
          (with_reducible refine (bWrite b b _ _ W6 HBU6.out HLN2.out HSZ6.out).mono ?_)
          rintro e W7 ⟨rfl, hu7, hb7, hk7⟩
          refine ⟨_, rfl, ?_⟩
          have HBU7 := Aside0.mk hu7
          have HB7 := Aside0.mk (Below.trans HB6.out hb7)
          clear hu7
          refine hK.out _ _ ⟨(blk_cell (hk7 _ _ _ HBK6.out (by decide) (by decide)) 0).trans rfl, (blk_cell (hk7 _ _ _ HBK6.out (by decide) (by decide)) 1).trans rfl⟩ (fun hHeld => ?_)
          clear hK K hb7 hk7
          refine norm_ (a' := ?_) ?_ ?_
          rotate_left
          · show Act.put _ (some 33) _ = _
            simp only [Act.put, List.setIfInBounds_toArray, List.set_cons_zero, List.set_cons_succ, i64_w, i32_w]
            rfl
          refine done_ (by kernel_rfl) ?_
          go_wp2_with fail
          go_roundg (m.length - (i + 1))
          case measure => omega
          case rel => exact ⟨i + 1, by go_num, hlt, Nat.le_refl _, ⟨by have := HBU7.out; rw [HEND3.out] at this; exact this⟩, HB7⟩
      · have hltz : ¬ (i : Int) < (m.length : Int) := by omega
        have hsz : b ≤ wr.heap.size := by have := HB.out.size; rw [← HBE.out] at this; exact this
        have HE := Aside0.mk (bString b b _ wr HBU.out hsz)
        have HW1 := Aside0.mk (show b ≤ W1.heap.size by rw [HBE.out]; exact Nat.le_refl _)
        have hno : ¬ 9223372036854775807 < (Hl.cont (m.take i)).length + 1 := by
          have h1 := Hl.cont_len (l := m.take i) (fun y hy => HMD.out.2.1 y (List.mem_of_mem_take hy))
          have h2 := HMD.out.2.2.2
          rw [List.length_take, Nat.min_eq_left (by omega)] at h1
          omega
        clear hsz
        go_wp2_with (go_at_call 105; (with_reducible refine HE.out.mono ?_); rintro e W8 ⟨rfl, hb8⟩; have HB8 := Aside0.mk (Below.trans HB.out hb8); clear hb8)
        go_ret
        refine ⟨?_, ?_⟩
        · rw [HT.out, List.take_of_length_le (show m.length ≤ i by omega), ← Hl.cont_txt HMD.out.2.2.1]
          show Ending.returned (.string ((⟨(Hl.cont m).toArray⟩ : ByteArray) ++ ⟨[125].toArray⟩)) = _
          rw [str_add]
        · have := HB8.out
          rw [HBE.out] at this
          exact below_step HB1.out this
end
end Go.Proofs.Ytcgocdhffcnleaa.PHead

/- A part of the proofs about the head: see the theorems' own lines. -/
namespace Go.Proofs.Ytcgocdhffcnleaa.PHead
open Go Go.RowKit Go.Proofs.YtcgocdhffcnleaaW.PrintWords Go.Proofs.YtcgocdhffcnleaaW.PrintLast Go.Proofs.YtcgocdhffcnleaaW.PrintMore Go.Proofs.Ytcgocdhffcnleaa.XB Go.Proofs.Ytcgocdhffcnleaa.PHeadPlays
set_option linter.unusedVariables false
set_option linter.unusedSimpArgs false
/-! ### the head, in plain lists -/
namespace Hd
def labsL (l : List S53) : List (List UInt8 × List UInt8) := l.map fun x => (x.f0.toList, x.f1.toList)
theorem labsL_inj : ∀ {a b : List S53}, labsL a = labsL b → a = b
  | [], [], _ => rfl
  | [], _ :: _, h => by simp [labsL] at h
  | _ :: _, [], h => by simp [labsL] at h
  | ⟨x0, x1⟩ :: a, ⟨y0, y1⟩ :: b, h => by
    obtain ⟨h1, h2⟩ := List.cons.inj h
    injection h1 with h3 h4
    obtain rfl : x0 = y0 := Hl.ba_ext h3
    obtain rfl : x1 = y1 := Hl.ba_ext h4
    rw [labsL_inj h2]
/-- Labels compared. -/
def lcl (a b : List S53) : Int := XLab.lc (labsL a) (labsL b)
theorem lcl_zero {a b : List S53} : lcl a b = 0 ↔ a = b := by
  unfold lcl
  rw [XLab.lc_zero]
  exact ⟨labsL_inj, fun h => by rw [h]⟩
theorem lcl_anti {a b : List S53} : lcl a b < 0 ↔ 0 < lcl b a := XLab.lc_anti _ _
theorem lcl_tr {a b c : List S53} (h1 : lcl a b < 0) (h2 : lcl b c < 0) : lcl a c < 0 := XLab.lc_tr _ _ _ h1 h2
theorem lcl_cases (a b : List S53) : a = b ∨ lcl a b < 0 ∨ lcl b a < 0 := by
  by_cases h : lcl a b = 0
  · exact .inl (lcl_zero.1 h)
  · by_cases h2 : lcl a b < 0
    · exact .inr (.inl h2)
    · exact .inr (.inr (lcl_anti.2 (by omega)))
theorem lcl_self (a : List S53) : lcl a a = 0 := lcl_zero.2 rfl
abbrev A := List (List S53 × List S44)
def find : A → List S53 → Option (List S44)
  | [], _ => none
  | p :: L, m => if lcl p.1 m = 0 then some p.2 else find L m
/-- A series' samples set, in the order of the labels. -/
def setA : A → List S53 → List S44 → A
  | [], m, xs => [(m, xs)]
  | p :: L, m, xs => if lcl p.1 m = 0 then (m, xs) :: L else if lcl m p.1 < 0 then (m, xs) :: p :: L else p :: setA L m xs
def putS : List S44 → S44 → List S44
  | [], s => [s]
  | x :: xs, s => if x.f0 < s.f0 then x :: putS xs s else if x.f0 = s.f0 then s :: xs else s :: x :: xs
def putL (L : A) (m : List S53) (s : S44) : A := setA L m (putS ((find L m).getD []) s)
def lastT (xs : List S44) : Int := (xs.getLast?.getD z44).f0
def maxT : Int := 9007199254740992
def rowF (win low : Int) (L : A) (r : S46) : Except Int A :=
  match Hl.mk r.f0 with
  | none => .error 20
  | some m =>
    if r.f1.f0 < -maxT ∨ maxT < r.f1.f0 then .error 21
    else if r.f1.f0 < low then .error 22
    else match find L m with
      | some xs => if r.f1.f0 < lastT xs - win then .error 22 else .ok (putL L m r.f1)
      | none => if 1000 ≤ L.length then .error 2 else .ok (putL L m r.f1)
def askF (win low : Int) : List S46 → A → Except Int A
  | [], L => .ok L
  | r :: rs, L => match rowF win low L r with
    | .error e => .error e
    | .ok L' => askF win low rs L'
/-- What Write answers, and what it leaves. -/
def writeF (win : Int) (L : A) (rows : List S46) : Int × A :=
  if rows.length = 0 then (1, L) else if 200 < rows.length then (2, L) else match askF win (-maxT) rows L with
    | .error e => (e, L)
    | .ok L' => (0, L')
def rising (xs : List S44) : Prop := xs.Pairwise fun a b => a.f0 < b.f0
def sorted (L : A) : Prop := L.Pairwise fun a b => lcl a.1 b.1 < 0
structure Ok (L : A) : Prop where
  sorted : sorted L
  made : ∀ p ∈ L, Hl.made p.1
  ne : ∀ p ∈ L, p.2 ≠ []
  rise : ∀ p ∈ L, rising p.2
  times : ∀ p ∈ L, ∀ x ∈ p.2, -maxT ≤ x.f0 ∧ x.f0 ≤ maxT
  len : L.length ≤ 1000
def cnt (L : A) : Nat := (L.map fun p => p.2.length).sum
theorem putS_mem {xs : List S44} {s x : S44} (h : x ∈ putS xs s) : x = s ∨ x ∈ xs := by
  induction xs with
  | nil => left; simpa [putS] using h
  | cons y xs ih =>
    rw [putS] at h
    split at h
    · rcases List.mem_cons.1 h with rfl | h
      · exact .inr List.mem_cons_self
      · rcases ih h with h | h
        · exact .inl h
        · exact .inr (List.mem_cons_of_mem _ h)
    · split at h
      · rcases List.mem_cons.1 h with rfl | h
        · exact .inl rfl
        · exact .inr (List.mem_cons_of_mem _ h)
      · rcases List.mem_cons.1 h with rfl | h
        · exact .inl rfl
        · exact .inr h
theorem putS_rising {xs : List S44} {s : S44} (h : rising xs) : rising (putS xs s) := by
  induction xs with
  | nil => exact List.pairwise_singleton _ _
  | cons y xs ih =>
    obtain ⟨h1, h2⟩ := List.pairwise_cons.1 h
    rw [putS]
    split
    · rename_i h3
      refine List.pairwise_cons.2 ⟨fun z hz => ?_, ih h2⟩
      rcases putS_mem hz with rfl | hz
      · exact h3
      · exact h1 z hz
    · split
      · rename_i h3 h4
        exact List.pairwise_cons.2 ⟨fun z hz => by have := h1 z hz; omega, h2⟩
      · rename_i h3 h4
        refine List.pairwise_cons.2 ⟨fun z hz => ?_, h⟩
        rcases List.mem_cons.1 hz with rfl | hz
        · omega
        · have := h1 z hz; omega
theorem putS_ne (xs : List S44) (s : S44) : putS xs s ≠ [] := by
  cases xs with
  | nil => simp [putS]
  | cons y xs =>
    rw [putS]
    split
    · simp
    · split <;> simp
theorem lastT_single (s : S44) : lastT [s] = s.f0 := rfl
theorem lastT_cons (x : S44) {xs : List S44} (h : xs ≠ []) : lastT (x :: xs) = lastT xs := by
  cases xs with
  | nil => exact absurd rfl h
  | cons y xs => unfold lastT; rw [List.getLast?_cons_cons]
theorem lastT_mem {xs : List S44} (h : xs ≠ []) : ∃ x ∈ xs, x.f0 = lastT xs := by
  refine ⟨xs.getLast h, List.getLast_mem h, ?_⟩
  unfold lastT
  rw [List.getLast?_eq_some_getLast h]
  rfl
theorem lastT_le {xs : List S44} (h : rising xs) : ∀ x ∈ xs, x.f0 ≤ lastT xs := by
  induction xs with
  | nil => intro x hx; cases hx
  | cons y xs ih =>
    intro x hx
    obtain ⟨h1, h2⟩ := List.pairwise_cons.1 h
    by_cases hne : xs = []
    · subst hne
      have : x = y := by simpa using hx
      rw [this, lastT_single]
      exact Int.le_refl _
    · rw [lastT_cons y hne]
      rcases List.mem_cons.1 hx with rfl | hx
      · obtain ⟨z, hz, he⟩ := lastT_mem hne
        have := h1 z hz
        omega
      · exact ih h2 x hx
theorem lastT_putS {xs : List S44} (h : rising xs) (s : S44) : lastT (putS xs s) = if xs = [] then s.f0 else max (lastT xs) s.f0 := by
  induction xs with
  | nil => rfl
  | cons y xs ih =>
    obtain ⟨h1, h2⟩ := List.pairwise_cons.1 h
    rw [if_neg (by simp), putS]
    split
    · rename_i h3
      rw [lastT_cons _ (putS_ne _ _), ih h2]
      by_cases hne : xs = []
      · subst hne
        rw [if_pos rfl, lastT_single]
        omega
      · rw [if_neg hne, lastT_cons _ hne]
    · split
      · rename_i h3 h4
        by_cases hne : xs = []
        · subst hne
          rw [lastT_single, lastT_single]
          omega
        · rw [lastT_cons _ hne, lastT_cons _ hne]
          obtain ⟨z, hz, he⟩ := lastT_mem hne
          have := h1 z hz
          omega
      · rename_i h3 h4
        rw [lastT_cons _ (by simp)]
        have := lastT_le h y List.mem_cons_self
        omega
theorem find_none {L : A} {m : List S53} : find L m = none ↔ ∀ p ∈ L, p.1 ≠ m := by
  induction L with
  | nil => simp [find]
  | cons p L ih =>
    rw [find]
    split
    · rename_i h
      simp only [reduceCtorEq, false_iff]
      intro h2
      exact h2 p List.mem_cons_self (lcl_zero.1 h)
    · rename_i h
      rw [ih]
      constructor
      · intro h2 q hq
        rcases List.mem_cons.1 hq with rfl | hq
        · exact fun e => h (lcl_zero.2 e)
        · exact h2 q hq
      · exact fun h2 q hq => h2 q (List.mem_cons_of_mem _ hq)
theorem find_mem {L : A} {m : List S53} {xs : List S44} (h : find L m = some xs) : (m, xs) ∈ L := by
  induction L with
  | nil => cases h
  | cons p L ih =>
    rw [find] at h
    split at h
    · rename_i h1
      have e := lcl_zero.1 h1
      have e2 := Option.some.inj h
      rw [← e, ← e2]
      exact List.mem_cons_self
    · exact List.mem_cons_of_mem _ (ih h)
theorem find_of_mem {L : A} (hs : sorted L) {p : List S53 × List S44} (h : p ∈ L) : find L p.1 = some p.2 := by
  induction L with
  | nil => cases h
  | cons q L ih =>
    obtain ⟨h1, h2⟩ := List.pairwise_cons.1 hs
    rw [find]
    rcases List.mem_cons.1 h with rfl | h
    · rw [if_pos (lcl_self _)]
    · rw [if_neg (by have := h1 p h; omega)]
      exact ih h2 h
theorem setA_mem {L : A} {m : List S53} {xs : List S44} {p : List S53 × List S44} (h : p ∈ setA L m xs) : p = (m, xs) ∨ p ∈ L := by
  induction L with
  | nil => left; simpa [setA] using h
  | cons q L ih =>
    rw [setA] at h
    split at h
    · rcases List.mem_cons.1 h with h | h
      · exact .inl h
      · exact .inr (List.mem_cons_of_mem _ h)
    · split at h
      · rcases List.mem_cons.1 h with h | h
        · exact .inl h
        · exact .inr h
      · rcases List.mem_cons.1 h with h | h
        · exact .inr (by rw [h]; exact List.mem_cons_self)
        · rcases ih h with h | h
          · exact .inl h
          · exact .inr (List.mem_cons_of_mem _ h)
theorem setA_sorted {L : A} {m : List S53} {xs : List S44} (h : sorted L) : sorted (setA L m xs) := by
  induction L with
  | nil => exact List.pairwise_singleton _ _
  | cons q L ih =>
    obtain ⟨h1, h2⟩ := List.pairwise_cons.1 h
    rw [setA]
    split
    · rename_i h3
      have e := lcl_zero.1 h3
      exact List.pairwise_cons.2 ⟨fun z hz => by rw [← e]; exact h1 z hz, h2⟩
    · split
      · rename_i h3 h4
        refine List.pairwise_cons.2 ⟨fun z hz => ?_, h⟩
        rcases List.mem_cons.1 hz with rfl | hz
        · exact h4
        · exact lcl_tr h4 (h1 z hz)
      · rename_i h3 h4
        refine List.pairwise_cons.2 ⟨fun z hz => ?_, ih h2⟩
        rcases setA_mem hz with rfl | hz
        · rcases lcl_cases q.1 m with e | e | e
          · exact absurd (lcl_zero.2 e) h3
          · exact e
          · exact absurd e h4
        · exact h1 z hz
theorem find_setA_same {L : A} {m : List S53} {xs : List S44} : find (setA L m xs) m = some xs := by
  induction L with
  | nil => rw [setA, find, if_pos (lcl_self _)]
  | cons q L ih =>
    rw [setA]
    split
    · rw [find, if_pos (lcl_self _)]
    · split
      · rw [find, if_pos (lcl_self _)]
      · rename_i h3 h4
        rw [find, if_neg h3]
        exact ih
theorem find_setA_other {L : A} {m k : List S53} {xs : List S44} (hne : k ≠ m) : find (setA L m xs) k = find L k := by
  have hmk : ¬ lcl m k = 0 := fun h => hne (lcl_zero.1 h).symm
  induction L with
  | nil => simp only [setA, find, if_neg hmk]
  | cons q L ih =>
    rw [setA]
    split
    · rename_i h3
      have e := lcl_zero.1 h3
      rw [find, if_neg hmk, find, if_neg (by rw [e]; exact hmk)]
    · split
      · rw [find, if_neg hmk]
      · rw [find, find, ih]
theorem setA_len {L : A} {m : List S53} {xs : List S44} (hs : sorted L) : (setA L m xs).length = if find L m = none then L.length + 1 else L.length := by
  induction L with
  | nil => simp [setA, find]
  | cons q L ih =>
    obtain ⟨h1, h2⟩ := List.pairwise_cons.1 hs
    rw [setA]
    split
    · rename_i h3
      rw [find, if_pos h3]
      simp
    · split
      · rename_i h3 h4
        have hn : find (q :: L) m = none := find_none.2 (fun p hp e => by
          rcases List.mem_cons.1 hp with rfl | hp
          · exact h3 (lcl_zero.2 e)
          · have := h1 p hp
            rw [e] at this
            have := lcl_tr h4 this
            rw [lcl_self] at this
            omega)
        rw [hn]
        simp
      · rename_i h3 h4
        rw [find, if_neg h3, List.length_cons, ih h2]
        split <;> simp
theorem putS_len (xs : List S44) (s : S44) : (putS xs s).length = xs.length + (if xs.any (fun x => x.f0 == s.f0) && (putS xs s).length == xs.length then 0 else (putS xs s).length - xs.length) ∧ xs.length ≤ (putS xs s).length ∧ (putS xs s).length ≤ xs.length + 1 := by
  have h : xs.length ≤ (putS xs s).length ∧ (putS xs s).length ≤ xs.length + 1 := by
    induction xs with
    | nil => simp [putS]
    | cons y xs ih =>
      rw [putS]
      split
      · simp only [List.length_cons]; omega
      · split <;> simp
  refine ⟨?_, h⟩
  split
  · rename_i h1
    simp only [Bool.and_eq_true, beq_iff_eq] at h1
    omega
  · omega
theorem putL_ok {L : A} {m : List S53} {s : S44} (h : Ok L) (hm : Hl.made m) (ht : -maxT ≤ s.f0 ∧ s.f0 ≤ maxT) (hl : find L m = none → L.length < 1000) : Ok (putL L m s) := by
  have hx : ∀ x ∈ (find L m).getD [], (rising ((find L m).getD [])) ∧ (-maxT ≤ x.f0 ∧ x.f0 ≤ maxT) := by
    cases hf : find L m with
    | none => intro x hx; cases hx
    | some xs => intro x hx; exact ⟨h.rise _ (find_mem hf), h.times _ (find_mem hf) x hx⟩
  have hr : rising ((find L m).getD []) := by
    cases hf : find L m with
    | none => exact List.Pairwise.nil
    | some xs => exact h.rise _ (find_mem hf)
  refine ⟨setA_sorted h.sorted, fun p hp => ?_, fun p hp => ?_, fun p hp => ?_, fun p hp => ?_, ?_⟩
  · rcases setA_mem hp with rfl | hp
    · exact hm
    · exact h.made p hp
  · rcases setA_mem hp with rfl | hp
    · exact putS_ne _ _
    · exact h.ne p hp
  · rcases setA_mem hp with rfl | hp
    · exact putS_rising hr
    · exact h.rise p hp
  · rcases setA_mem hp with rfl | hp
    · intro x hx'
      rcases putS_mem hx' with rfl | hx'
      · exact ht
      · exact (hx x hx').2
    · exact h.times p hp
  · unfold putL
    rw [setA_len h.sorted]
    have := h.len
    split
    · rename_i h1; have := hl h1; omega
    · omega
theorem rowF_ok {win low : Int} {L L' : A} {r : S46} (h : Ok L) (hr : rowF win low L r = .ok L') : Ok L' ∧ ∃ m, Hl.mk r.f0 = some m ∧ L' = putL L m r.f1 ∧ (-maxT ≤ r.f1.f0 ∧ r.f1.f0 ≤ maxT) ∧ (find L m = none → L.length < 1000) := by
  unfold rowF at hr
  cases hm : Hl.mk r.f0 with
  | none => rw [hm] at hr; cases hr
  | some m =>
    rw [hm] at hr
    simp only at hr
    split at hr
    · cases hr
    · rename_i h1
      split at hr
      · cases hr
      · have ht : -maxT ≤ r.f1.f0 ∧ r.f1.f0 ≤ maxT := by omega
        cases hf : find L m with
        | none =>
          rw [hf] at hr
          simp only at hr
          split at hr
          · cases hr
          · rename_i h3
            injection hr with hr
            subst hr
            exact ⟨putL_ok h (Hl.mk_made hm).1 ht (fun _ => by omega), m, rfl, rfl, ht, fun _ => by omega⟩
        | some xs =>
          rw [hf] at hr
          simp only at hr
          split at hr
          · cases hr
          · injection hr with hr
            subst hr
            exact ⟨putL_ok h (Hl.mk_made hm).1 ht (fun h => by rw [hf] at h; cases h), m, rfl, rfl, ht, fun h => by rw [hf] at h; cases h⟩
end Hd
end Go.Proofs.Ytcgocdhffcnleaa.PHead
