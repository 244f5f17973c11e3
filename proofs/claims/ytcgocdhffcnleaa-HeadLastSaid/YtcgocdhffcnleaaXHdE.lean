/- A part of the proofs about the head: see the theorems' own lines. -/
import Derived.Test.YtcgocdhffcnleaaXHdC
import Derived.Test.YtcgocdhffcnleaaXHdD
import Derived.Test.YtcgocdhffcnleaaXLay
import Derived.Outline
namespace Go.Proofs.Ytcgocdhffcnleaa.PHead
open Go Go.RowKit Go.Proofs.YtcgocdhffcnleaaW.PrintWords Go.Proofs.YtcgocdhffcnleaaW.PrintLast Go.Proofs.YtcgocdhffcnleaaW.PrintMore Go.Proofs.Ytcgocdhffcnleaa.XB Go.Proofs.Ytcgocdhffcnleaa.PHeadPlays
set_option linter.unusedVariables false
set_option linter.unusedSimpArgs false
/-! ### labels.Text -/
section
open Go.Proofs.Ytcgocdhffcnleaa.XH
def Hl.cont : List S53 → List UInt8
  | [] => []
  | x :: l => 123 :: (Hl.labT x ++ l.flatMap fun y => 44 :: Hl.labT y)
theorem Hl.cont_snoc (p : List S53) (x : S53) : Hl.cont (p ++ [x]) = Hl.cont p ++ (if p.length = 0 then 123 else 44) :: Hl.labT x := by
  cases p with
  | nil => simp [Hl.cont]
  | cons y p => simp [Hl.cont]
theorem Hl.body_flat : ∀ l : List S53, Hl.bodyT l = (l.flatMap fun y => 44 :: Hl.labT y) ++ [125]
  | [] => rfl
  | x :: l => by rw [Hl.bodyT, Hl.body_flat l, List.flatMap_cons]; simp
theorem Hl.cont_txt {l : List S53} (h : l.length ≠ 0) : Hl.cont l ++ [125] = Hl.txtB l := by
  cases l with
  | nil => exact absurd rfl h
  | cons x l => rw [Hl.cont, Hl.txtB, Hl.body_flat]; simp
theorem ba_size (s : ByteArray) : s.toList.length = s.size := by rw [Go.ByteArray.toList_eq, Array.length_toList]; rfl
theorem Hl.ok_sizes {x : S53} (h : Hl.okL x = true) : x.f0.size ≤ 64 ∧ x.f1.size ≤ 64 := by
  unfold Hl.okL labels_Name.ok at h
  simp only [Bool.and_eq_true, decide_eq_true_eq] at h
  exact ⟨h.1.1.1.1.2, h.2⟩
theorem Hl.lab_len {x : S53} (h : Hl.okL x = true) : (Hl.labT x).length ≤ 260 := by
  obtain ⟨h1, h2⟩ := Hl.ok_sizes h
  unfold Hl.labT Hl.qt
  have := Hl.enc_len x.f1.toList
  rw [ba_size] at this
  simp only [List.length_append, List.length_cons, List.length_nil, ba_size]
  omega
theorem Hl.cont_len : ∀ {l : List S53}, (∀ x ∈ l, Hl.okL x = true) → (Hl.cont l).length ≤ l.length * 261
  | [], _ => Nat.zero_le _
  | x :: l, h => by
    have h1 := Hl.lab_len (h x List.mem_cons_self)
    have h2 : ∀ l : List S53, (∀ x ∈ l, Hl.okL x = true) → (l.flatMap fun y => 44 :: Hl.labT y).length ≤ l.length * 261 := by
      intro l
      induction l with
      | nil => intro _; exact Nat.zero_le _
      | cons y l ih =>
        intro h
        have h3 := Hl.lab_len (h y List.mem_cons_self)
        have := ih (fun z hz => h z (List.mem_cons_of_mem _ hz))
        rw [List.flatMap_cons, List.length_append, List.length_cons, List.length_cons]
        omega
    have h3 := h2 l (fun z hz => h z (List.mem_cons_of_mem _ hz))
    rw [Hl.cont, List.length_cons, List.length_append, List.length_cons]
    omega
theorem ba_mk (s : ByteArray) : s = ⟨s.toList.toArray⟩ := Hl.ba_ext (by rw [Go.ByteArray.toList_eq, Go.ByteArray.toList_eq])
theorem str_add (a b : List UInt8) : (⟨a.toArray⟩ : ByteArray) ++ ⟨b.toArray⟩ = ⟨(a ++ b).toArray⟩ := by
  refine Hl.ba_ext ?_
  simp [Go.ByteArray.toList_eq]
/-- Blocks that are no builders and no rows of bytes stay. -/
def bKept (w w' : World) : Prop := ∀ (k : Nat) (cs : Array Value) (t : TypeId), w.heap[k]? = some (.cells cs t (0, 0)) → t ≠ 160 → t ≠ 5 → w'.heap[k]? = some (.cells cs t (0, 0))
theorem bKept.trans {w w1 w2 : World} (h : bKept w w1) (k : bKept w1 w2) : bKept w w2 := fun i cs t hi h1 h2 => k i cs t (h i cs t hi h1 h2) h1 h2
theorem bKept.of_below {w w' : World} (h : Below w.heap.size w w') : bKept w w' := fun k cs t hk _ _ => blk_below hk h
theorem bKept.cell {w w' : World} (h : bKept w w') {k o t : Nat} {cs : Array Value} {v : Value} (hk : w.heap[k]? = some (.cells cs t (0, 0))) (h1 : t ≠ 160) (h2 : t ≠ 5) (hc : w.cell? ⟨k, o, none⟩ = some v) : w'.cell? ⟨k, o, none⟩ = some v := by
  rw [blk_cell (h k cs t hk h1 h2)]
  rw [blk_cell hk] at hc
  exact hc
theorem bCheck (B b : Nat) (bs : List Value) (w : World) (h : Lib.IsBuilder 160 5 B b bs w) :
    Calls Try.prog 132 #[.pointer (some ⟨b, 0, none⟩)] w fun e w' => e = .returned (.tuple #[]) ∧ Lib.BuilderAt 160 5 B b (.pointer (some ⟨b, 0, none⟩)) bs w' ∧ Below B w w' ∧ bKept w w' := by
  rcases h with h | h
  · refine (Any.Builder_copyCheck_fresh { Go.Proofs.Ytcgocdhffcnleaa.bWS with } Go.Proofs.Ytcgocdhffcnleaa.bX.toX72 b w h.cell0 h.shape h.frozen0).mono ?_
    rintro e w' ⟨rfl, rfl⟩
    refine ⟨rfl, h.used _, (Below.refl B w).setCell (p := ⟨b, 0, none⟩) h.1 _, fun k cs t hk h1 h2 => ?_⟩
    obtain ⟨_, v, hb, _⟩ := h
    refine blk_far hk (p := ⟨b, 0, none⟩) ?_ _
    rintro rfl
    rw [hb] at hk
    injection hk with hk
    injection hk with _ hk _
    exact h1 hk.symm
  · refine (Any.Builder_copyCheck_used { Go.Proofs.Ytcgocdhffcnleaa.bWS with } Go.Proofs.Ytcgocdhffcnleaa.bX.toX72 b w h.cell0).mono ?_
    rintro e w' ⟨rfl, rfl⟩
    exact ⟨rfl, h, Below.refl B _, fun _ _ _ hk _ _ => hk⟩
set_option maxHeartbeats 4000000 in
set_option maxRecDepth 100000 in
theorem bWrite (B b : Nat) (l : List UInt8) (s : ByteArray) (w : World) (h : Lib.IsBuilder 160 5 B b (Lib.byteCells l) w) (hlen : l.length + s.size ≤ 140737488355328) (hBw : B ≤ w.heap.size) :
    Calls Try.prog 103 #[.pointer (some ⟨b, 0, none⟩), .string s] w fun e w' => e = .returned (.tuple #[.int .i64 s.size, .nilIface]) ∧ Lib.IsBuilder 160 5 B b (Lib.byteCells (l ++ s.toList)) w' ∧ Below B w w' ∧ bKept w w' := by
  obtain ⟨i0, hi, hz0, hz1, hz2⟩ := info_parts info5
  have hbl : (Lib.byteCells l).length = l.length := by simp [Lib.byteCells]
  have HCK := Aside0.mk (bCheck B b (Lib.byteCells l) w h)
  have HE := Aside0.mk (show Lib.byteCells l ++ Lib.strCells s = Lib.byteCells (l ++ s.toList) from by
    conv => lhs; rw [ba_mk s]
    simp [Lib.byteCells, Lib.strCells, Go.ByteArray.toList_eq])
  have HLEN := Aside0.mk (show (Lib.byteCells l).length + s.size ≤ 140737488355328 by rw [hbl]; exact hlen)
  clear h hbl
  go_enter Try.func103, Try.ntmps103
  go_upto_region 2 with (go_at_call 132; (with_reducible refine HCK.out.mono ?_); rintro e w1 ⟨rfl, h1, hb1, hk1⟩)
  obtain ⟨hB, v, hbk, hown, hne⟩ := h1
  have c1 : w1.cell? ⟨b, 1, none⟩ = some v := (blk_cell hbk 1).trans rfl
  have HBK := Aside0.mk hbk
  have HOWN := Aside0.mk hown
  have HNE := Aside0.mk hne
  have HB1 := Aside0.mk hb1
  have HK1 := Aside0.mk hk1
  have hsz := hb1.size
  clear hbk hown hne hb1 hk1
  go_wp2_with (at_builtin; refine Lib.wpList_append_own_string _ rfl _ _ 82 9 rfl B 5 i0 Try.underlying82 Try.underlying9 hi hz0 hz1 hz2 v (Lib.byteCells l).length (Lib.byteCells l) rfl HOWN.out s rfl (by have := HLEN.out; unfold maxLen; omega) HLEN.out (by omega) ?_; intro v' w2 hown' hgrow _; have d1 : w2.cell? ⟨b, 1, none⟩ = some v := (blk_cell (blk_grown HBK.out hgrow (fun e => HNE.out e.symm)) 1).trans rfl; have f1 := blk_frozen (blk_grown HBK.out hgrow (fun e => HNE.out e.symm)) 1; have HOWN2 := Aside0.mk hown'; have HG := Aside0.mk hgrow; obtain ⟨A2, cap2, e2⟩ := own_slice hown'; subst e2; clear hown' hgrow)
  go_ret2
  have hbk2 := blk_grown HBK.out HG.out (fun e => HNE.out e.symm)
  refine ⟨rfl, .inr ?_, ?_, ?_⟩
  · rw [← HE.out]
    refine Lib.BuilderAt.put (T := 160) (e := 5) hB hbk2 (bs' := Lib.byteCells l ++ Lib.strCells s) ?_ (by decide)
    have := HOWN2.out
    rw [List.length_append, Lib.strCells_length]
    exact this
  · exact ((HB1.out).grown HG.out (by omega) (fun k hk => own_base HOWN.out k hk)).setCell (p := ⟨b, 1, none⟩) hB _
  · refine HK1.out.trans (fun k cs t hk h1 h2 => ?_)
    refine blk_far (blk_grown hk HG.out ?_) (p := ⟨b, 1, none⟩) ?_ _
    · intro he
      obtain ⟨cells, hc⟩ := own_typed HOWN.out k he.symm
      rw [hc] at hk
      injection hk with hk
      injection hk with _ hk _
      exact h2 hk.symm
    · rintro rfl
      have := HBK.out
      rw [this] at hk
      injection hk with hk
      injection hk with _ hk _
      exact h1 hk.symm
theorem bString (B b : Nat) (l : List UInt8) (w : World) (h : Lib.IsBuilder 160 5 B b (Lib.byteCells l) w) (hBw : B ≤ w.heap.size) :
    Calls Try.prog 105 #[.pointer (some ⟨b, 0, none⟩)] w fun e w' => e = .returned (.string ⟨l.toArray⟩) ∧ Below B w w' :=
  Any.Builder_String_any Go.Proofs.Ytcgocdhffcnleaa.bS Go.Proofs.Ytcgocdhffcnleaa.bX2 B b l w h hBw
theorem bNew (B : Nat) (w : World) (hB : B ≤ w.heap.size) : Lib.IsBuilder 160 5 B w.heap.size (Lib.byteCells []) (w.alloc (.cells #[.pointer none, .slice none 0 0] 160)) :=
  .inl ⟨hB, .slice none 0 0, blk_new _ _, own_nil _ _ _ _, by simp [Value.ownBlock]⟩
theorem bKeep {B b : Nat} {bs : List Value} {w w' : World} (h : Lib.IsBuilder 160 5 B b bs w) (hb : Below w.heap.size w w') : Lib.IsBuilder 160 5 B b bs w' := by
  rcases h with ⟨h1, v, h2, h3, h4⟩ | ⟨h1, v, h2, h3, h4⟩
  · exact .inl ⟨h1, v, blk_below h2 hb, pw_own_below h3 hb, h4⟩
  · exact .inr ⟨h1, v, blk_below h2 hb, pw_own_below h3 hb, h4⟩
set_option maxHeartbeats 8000000 in
set_option maxRecDepth 100000 in
theorem labels_Text.calls (A0 : Option Addr) (c0 : Nat) (l : List S53) (w : World) (hC : Kd.C k53 w A0 l.length l) (hc : l.length ≤ c0) :
    Calls Try.prog 62 #[.slice A0 l.length c0] w fun e w' => e = .returned (.string (Hl.txt l)) ∧ Below w.heap.size w w' := by
  have HMAKE := Aside0.mk (labels_Make.calls A0 c0 l w hC hc)
  clear hC hc
  cases hm : Hl.mk l with
  | none =>
    have HT := Aside0.mk (show Hl.txt l = ⟨#[]⟩ from by unfold Hl.txt; rw [hm])
    have HM := Aside0.mk hm
    clear hm
    go_enter Try.func62, Try.ntmps62
    go_wp2_with (go_at_call 101; (with_reducible refine HMAKE.out.mono ?_); rintro e W1 ⟨hb1, hp⟩; rw [HM.out] at hp; dsimp only at hp; subst hp; have HB1 := Aside0.mk hb1; clear hb1)
    go_ret
    exact ⟨by rw [HT.out]; rfl, HB1.out⟩
  | some m =>
    have HT := Aside0.mk (show Hl.txt l = ⟨(Hl.txtB m).toArray⟩ from by unfold Hl.txt; rw [hm])
    have HM := Aside0.mk hm
    have HMD := Aside0.mk (Hl.mk_made hm).1
    clear hm
    go_enter Try.func62, Try.ntmps62
    go_wp2_with (go_at_call 101; (with_reducible refine HMAKE.out.mono ?_); rintro e W1 ⟨hb1, hp⟩; rw [HM.out] at hp; dsimp only at hp; obtain ⟨v, he, hr⟩ := hp; subst he; obtain ⟨Am, cm, ev⟩ := Kd.R_slice hr; subst ev; have HR := Aside0.mk hr; have HB1 := Aside0.mk hb1; clear hb1 hr)
    have hwl : ∀ (W : World), (Op.unary .not (.bool true)).run Try.prog W = .ok (.bool false) W := fun _ => rfl
    clear hwl
    obtain ⟨b, hb⟩ : ∃ b, b = W1.heap.size := ⟨_, rfl⟩
    obtain ⟨W2, hW2⟩ : ∃ W2, W2 = W1.alloc (.cells #[.pointer none, .slice none 0 0] 160) := ⟨_, rfl⟩
    have HBU := Aside0.mk (show Lib.IsBuilder 160 5 b b (Lib.byteCells (Hl.cont (m.take 0))) W2 from by rw [hb, hW2]; exact bNew _ W1 (Nat.le_refl _))
    have HB2 := Aside0.mk (show Below b W1 W2 from by rw [hb, hW2]; exact below_alloc (Below.refl _ _) _)
    rw [← hW2, ← hb]
    have HBE := Aside0.mk hb
    have hmn := (Kd.R_reads' HR.out).2.2.2.1
    clear hb hW2
    go_loopg [16] m.length (fun kx v16 wr => ∃ i : Nat, v16 = .int .i64 i ∧ i ≤ m.length ∧ m.length - i ≤ kx ∧ Aside0 (Lib.IsBuilder 160 5 b b (Lib.byteCells (Hl.cont (m.take i))) wr) ∧ Aside0 (Below b W1 wr))
    case atStart => exact ⟨0, rfl, Nat.zero_le _, Nat.le_refl _, HBU, HB2⟩
    case round =>
      clear HBU HB2
      obtain ⟨i, rfl, hi, hkx, HBU, HB⟩ := hrel
      by_cases hlt : i < m.length
      · have hltz : (i : Int) < (m.length : Int) := by omega
        have hi0 : (0 : Int) ≤ (i : Int) := by omega
        obtain ⟨ad, hA, x0, x1⟩ := at_T53 (Kd.R_reads' HR.out).2.2 (i : Int) hi0 hltz
        subst hA
        have hrd : rd_T53 m (i : Int) = m[i] := by unfold rd_T53; simp [hlt]
        obtain ⟨x, hx⟩ : ∃ x, x = m[i] := ⟨_, rfl⟩
        rw [hrd, ← hx, Int.toNat_natCast] at x0 x1
        have hbb := HB.out
        rw [HBE.out] at hbb
        have y0 := pw_cell_below hbb x0
        have y1 := pw_cell_below hbb x1
        have HOK := Aside0.mk (HMD.out.2.1 x (by rw [hx]; exact List.getElem_mem hlt))
        have HSN := Aside0.mk (show Hl.cont (m.take (i + 1)) = Hl.cont (m.take i) ++ (if i = 0 then 123 else 44) :: Hl.labT x from by
          rw [List.take_succ_eq_append_getElem hlt, Hl.cont_snoc, ← hx, List.length_take, Nat.min_eq_left (by omega)])
        have HLN := Aside0.mk (show (Hl.cont (m.take i)).length ≤ 16 * 261 from by
          have h1 := Hl.cont_len (l := m.take i) (fun y hy => HMD.out.2.1 y (List.mem_of_mem_take hy))
          have h2 := HMD.out.2.2.2
          rw [List.length_take, Nat.min_eq_left (by omega)] at h1
          omega)
        clear hrd hx x0 x1 hbb
        go_upto_region 8 with fail
        refine cwp_world ?_
        intro W3 hW3
        obtain ⟨g, hg⟩ : ∃ g, g = wr.heap.size := ⟨_, rfl⟩
        have HBK := Aside0.mk (show W3.heap[g]? = some (.cells #[.string x.f0, .string x.f1] 53 (0, 0)) by rw [hW3, hg]; exact blk_new _ _)
        have hb3 : Below wr.heap.size wr W3 := by rw [hW3]; exact below_alloc (Below.refl _ _) _
        have HBU3 := Aside0.mk (bKeep HBU.out hb3)
        have HSZ := Aside0.mk (show b ≤ wr.heap.size from by have := HB.out.size; rw [← HBE.out] at this; exact this)
        have HB3 := Aside0.mk (Below.trans HB.out (hb3.mono HSZ.out))
        have HSZ3 := Aside0.mk (Nat.le_trans HSZ.out hb3.size)
        rw [← hg]
        clear hW3 hg hb3 HBU HB y0 y1
        have HLN1 := Aside0.mk (show (Hl.cont (m.take i)).length + 1 ≤ 140737488355328 by have := HLN.out; omega)
        have HQ := Aside0.mk (quote_calls x.f1 (by have := (Hl.ok_sizes HOK.out).2; omega))
        have HLN2 := Aside0.mk (show ∀ s : UInt8, (Hl.cont (m.take i) ++ [s]).length + (x.f0 ++ ⟨#[61]⟩ ++ ⟨(Hl.qt x.f1.toList).toArray⟩ : ByteArray).size ≤ 140737488355328 from by
          intro s
          have h1 := (Hl.ok_sizes HOK.out)
          have h2 := Hl.enc_len x.f1.toList
          rw [ba_size] at h2
          have h3 := HLN.out
          rw [← ba_size, Go.ByteArray.toList_eq]
          unfold Hl.qt
          simp only [ByteArray.data_append, Array.toList_append, List.length_append, List.length_cons, List.length_nil]
          have h4 : x.f0.data.toList.length = x.f0.size := by rw [Array.length_toList]; rfl
          rw [h4]
          omega)
        have HEND := Aside0.mk (show ∀ s : UInt8, s = (if i = 0 then 123 else 44) → (Hl.cont (m.take i) ++ [s]) ++ (x.f0 ++ ⟨#[61]⟩ ++ ⟨(Hl.qt x.f1.toList).toArray⟩ : ByteArray).toList = Hl.cont (m.take (i + 1)) from by
          intro s hs
          rw [HSN.out, ← hs]
          unfold Hl.labT
          simp [Go.ByteArray.toList_eq])
        clear HSN HLN
        have i0 : ∀ W : World, (Instr.index 165 (.agg #[.string ⟨#[123]⟩, .string ⟨#[44]⟩]) (.int .i64 0)).run Try.prog W = .ok (.string ⟨#[123]⟩) W := fun _ => by kernel_rfl
        have i1 : ∀ W : World, (Instr.index 165 (.agg #[.string ⟨#[123]⟩, .string ⟨#[44]⟩]) (.int .i64 1)).run Try.prog W = .ok (.string ⟨#[44]⟩) W := fun _ => by kernel_rfl
        have him : i ≤ 9223372036854775806 := by omega
        have hz1 : ¬ 9223372036854775807 < x.f0.size + 1 := by have := (Hl.ok_sizes HOK.out).1; omega
        have hz2 : ¬ 9223372036854775807 < x.f0.size + 1 + (Hl.qt x.f1.toList).length := by
          have h1 := Hl.lab_len HOK.out
          unfold Hl.labT at h1
          rw [List.length_append, List.length_cons, ba_size] at h1
          omega
        clear HOK
        rcases Nat.eq_zero_or_pos i with h0 | h0
        · have hmin : min (i : Int) 1 = 0 := by omega
          have hi2 := Aside0.mk h0
          clear h0
          have HLN3 := Aside0.mk (HLN2.out 123)
          have HEND3 := Aside0.mk (HEND.out 123 (by rw [if_pos hi2.out]))
          clear HLN2 HEND
          have HLN2 := HLN3
          clear HLN3
          have HW := Aside0.mk (fun W h1 h2 => bWrite b b (Hl.cont (m.take i)) ⟨#[123]⟩ W h1 HLN1.out h2)
          go_upto_region 9 with (go_at_call 103; (with_reducible refine (HW.out _ HBU3.out HSZ3.out).mono ?_); rintro e W4 ⟨rfl, hu4, hb4, hk4⟩; have HBU4 := Aside0.mk (show Lib.IsBuilder 160 5 b b (Lib.byteCells (Hl.cont (m.take i) ++ [123])) W4 from by rw [show (⟨#[123]⟩ : ByteArray).toList = [123] from by rw [Go.ByteArray.toList_eq]] at hu4; exact hu4); have HB4 := Aside0.mk (Below.trans HB3.out hb4); have HSZ4 := Aside0.mk (Nat.le_trans HSZ3.out hb4.size); have HBK4 := Aside0.mk (hk4 _ _ _ HBK.out (by decide) (by decide)); have z0 : W4.cell? ⟨g, 0, none⟩ = some (.string x.f0) := (blk_cell HBK4.out 0).trans rfl; have z1 : W4.cell? ⟨g, 1, none⟩ = some (.string x.f1) := (blk_cell HBK4.out 1).trans rfl; clear hu4 hb4 hk4)
          clear HB3 HBU3 HBK HW HSZ3 HSZ HLN1
          have HBU5 := Aside0.mk (bKeep HBU4.out (below_drew1 (Below.refl _ _)))
          have HB5 := Aside0.mk (below_drew1 HB4.out)
          have HBK5 := Aside0.mk (blk_drew HBK4.out)
          have HSZ5 := Aside0.mk (show b ≤ W4.drew.heap.size from HSZ4.out)
          clear HBU4 HB4 HBK4 HSZ4
          refine start_ (n := 8) (S := fun w' => w'.cell? ⟨g, 0, none⟩ = some (.string x.f0) ∧ w'.cell? ⟨g, 1, none⟩ = some (.string x.f1)) (ds := []) #[false, false, false, false, false, false, false, false] (by kernel_rfl) rfl rfl ⟨z0, z1⟩ (fun hHeld => ?_)
          clear z0 z1
          generalize W4.drew = W5 at HBU5 HB5 HBK5 HSZ5 hHeld ⊢
          refine pure_ (i := 0) (N := (some 26)) (v := ?_) (a' := ?_) #[true, false, false, false, false, false, false, false] rfl rfl (by kernel_rfl) (fun _ _ _ h => h) (Or.inl ⟨by rfl, ?_⟩) ?_ ?_
          rotate_left
          · intro w'
            go_simp
            with_reducible rfl
          rotate_left
          · simp only [Act.put, List.setIfInBounds_toArray, List.set_cons_zero, List.set_cons_succ, i64_w, i32_w]
            rfl
          refine take_ (i := 1) (N := (some 27)) (v := ?_) (a' := ?_) #[true, true, false, false, false, false, false, false] rfl rfl (by kernel_rfl) (fun _ _ _ h => h) (Or.inl ⟨by rfl, ?_⟩) hHeld ?_ ?_
          rotate_left
          · rintro w' ⟨s0, s1⟩
            go_simp
            with_reducible rfl
          rotate_left
          · simp only [Act.put, List.setIfInBounds_toArray, List.set_cons_zero, List.set_cons_succ, i64_w, i32_w]
            rfl
          refine pure_ (i := 2) (N := (some 28)) (v := ?_) (a' := ?_) #[true, true, true, false, false, false, false, false] rfl rfl (by kernel_rfl) (fun _ _ _ h => h) (Or.inl ⟨by rfl, ?_⟩) ?_ ?_
          rotate_left
          · intro w'
            go_simp
            with_reducible rfl
          rotate_left
          · simp only [Act.put, List.setIfInBounds_toArray, List.set_cons_zero, List.set_cons_succ, i64_w, i32_w]
            rfl
          refine pure_ (i := 3) (N := (some 29)) (v := ?_) (a' := ?_) #[true, true, true, true, false, false, false, false] rfl rfl (by kernel_rfl) (fun _ _ _ h => h) (Or.inl ⟨by rfl, ?_⟩) ?_ ?_
          rotate_left
          · intro w'
            go_simp
            with_reducible rfl
          rotate_left
          · simp only [Act.put, List.setIfInBounds_toArray, List.set_cons_zero, List.set_cons_succ, i64_w, i32_w]
            rfl
          refine take_ (i := 4) (N := (some 30)) (v := ?_) (a' := ?_) #[true, true, true, true, true, false, false, false] rfl rfl (by kernel_rfl) (fun _ _ _ h => h) (Or.inl ⟨by rfl, ?_⟩) hHeld ?_ ?_
          rotate_left
          · rintro w' ⟨s0, s1⟩
            go_simp
            with_reducible rfl
          rotate_left
          · simp only [Act.put, List.setIfInBounds_toArray, List.set_cons_zero, List.set_cons_succ, i64_w, i32_w]
            rfl
          refine one_ (i := 5) (N := (some 31)) #[true, true, true, true, true, true, false, false] rfl rfl (by kernel_rfl) (by decide) (fun K hK => ?_)
          refine goes_ Try.func104 (by kernel_rfl) rfl #[.string x.f1] (by rfl) rfl rfl (by first | (simp; done) | ((try simp only [List.map_toArray, List.map_cons, List.map_nil]); first | done | rfl)) ?_
          (with_reducible refine (HQ.out _).mono ?_)
          rintro e W6 ⟨rfl, hb6⟩
          refine ⟨_, rfl, ?_⟩
          have HBU6 := Aside0.mk (bKeep HBU5.out hb6)
          have HB6 := Aside0.mk (Below.trans HB5.out (hb6.mono HSZ5.out))
          have HBK6 := Aside0.mk (blk_below HBK5.out hb6)
          have HSZ6 := Aside0.mk (Nat.le_trans HSZ5.out hb6.size)
          clear hb6 HBU5 HB5 HBK5 HSZ5
          refine hK.out _ _ ⟨(blk_cell HBK6.out 0).trans rfl, (blk_cell HBK6.out 1).trans rfl⟩ (fun hHeld => ?_)
          clear hK K
          refine norm_ (a' := ?_) ?_ ?_
          rotate_left
          · show Act.put _ (some 31) _ = _
            simp only [Act.put, List.setIfInBounds_toArray, List.set_cons_zero, List.set_cons_succ, i64_w, i32_w]
            rfl
          refine pure_ (i := 6) (N := (some 32)) (v := ?_) (a' := ?_) #[true, true, true, true, true, true, true, false] rfl rfl (by kernel_rfl) (fun _ _ _ h => h) (Or.inl ⟨by rfl, ?_⟩) ?_ ?_
          rotate_left
          · intro w'
            go_simp
            with_reducible rfl
          rotate_left
          · simp only [Act.put, List.setIfInBounds_toArray, List.set_cons_zero, List.set_cons_succ, i64_w, i32_w]
            rfl
          refine one_ (i := 7) (N := (some 33)) #[true, true, true, true, true, true, true, true] rfl rfl (by kernel_rfl) (by decide) (fun K hK => ?_)
          refine goes_ Try.func103 (by kernel_rfl) rfl #[.pointer (some ⟨b, 0, none⟩), .string (x.f0 ++ ⟨#[61]⟩ ++ ⟨(Hl.qt x.f1.toList).toArray⟩)] (by rfl) rfl rfl (by first | (simp; done) | ((try simp only [List.map_toArray, List.map_cons, List.map_nil]); first | done | rfl)) ?_
          (with_reducible refine (bWrite b b _ _ W6 HBU6.out HLN2.out HSZ6.out).mono ?_)
          rintro e W7 ⟨rfl, hu7, hb7, hk7⟩
          refine ⟨_, rfl, ?_⟩
          have HBU7 := Aside0.mk hu7
          have HB7 := Aside0.mk (Below.trans HB6.out hb7)
          clear hu7
          refine hK.out _ _ ⟨(blk_cell (hk7 _ _ _ HBK6.out (by decide) (by decide)) 0).trans rfl, (blk_cell (hk7 _ _ _ HBK6.out (by decide) (by decide)) 1).trans rfl⟩ (fun hHeld => ?_)
          clear hK K hb7 hk7
          refine norm_ (a' := ?_) ?_ ?_
          rotate_left
          · show Act.put _ (some 33) _ = _
            simp only [Act.put, List.setIfInBounds_toArray, List.set_cons_zero, List.set_cons_succ, i64_w, i32_w]
            rfl
          refine done_ (by kernel_rfl) ?_
          go_wp2_with fail
          go_roundg (m.length - (i + 1))
          case measure => omega
          case rel => exact ⟨i + 1, by go_num, hlt, Nat.le_refl _, ⟨by have := HBU7.out; rw [HEND3.out] at this; exact this⟩, HB7⟩
        · have hmin : min (i : Int) 1 = 1 := by omega
          have hi2 := Aside0.mk (show ¬ i = 0 by omega)
          clear h0
          have HLN3 := Aside0.mk (HLN2.out 44)
          have HEND3 := Aside0.mk (HEND.out 44 (by rw [if_neg hi2.out]))
          clear HLN2 HEND
          have HLN2 := HLN3
          clear HLN3
          have HW := Aside0.mk (fun W h1 h2 => bWrite b b (Hl.cont (m.take i)) ⟨#[44]⟩ W h1 HLN1.out h2)
          go_upto_region 9 with (go_at_call 103; (with_reducible refine (HW.out _ HBU3.out HSZ3.out).mono ?_); rintro e W4 ⟨rfl, hu4, hb4, hk4⟩; have HBU4 := Aside0.mk (show Lib.IsBuilder 160 5 b b (Lib.byteCells (Hl.cont (m.take i) ++ [44])) W4 from by rw [show (⟨#[44]⟩ : ByteArray).toList = [44] from by rw [Go.ByteArray.toList_eq]] at hu4; exact hu4); have HB4 := Aside0.mk (Below.trans HB3.out hb4); have HSZ4 := Aside0.mk (Nat.le_trans HSZ3.out hb4.size); have HBK4 := Aside0.mk (hk4 _ _ _ HBK.out (by decide) (by decide)); have z0 : W4.cell? ⟨g, 0, none⟩ = some (.string x.f0) := (blk_cell HBK4.out 0).trans rfl; have z1 : W4.cell? ⟨g, 1, none⟩ = some (.string x.f1) := (blk_cell HBK4.out 1).trans rfl; clear hu4 hb4 hk4)
          clear HB3 HBU3 HBK HW HSZ3 HSZ HLN1
          have HBU5 := Aside0.mk (bKeep HBU4.out (below_drew1 (Below.refl _ _)))
          have HB5 := Aside0.mk (below_drew1 HB4.out)
          have HBK5 := Aside0.mk (blk_drew HBK4.out)
          have HSZ5 := Aside0.mk (show b ≤ W4.drew.heap.size from HSZ4.out)
          clear HBU4 HB4 HBK4 HSZ4
          refine start_ (n := 8) (S := fun w' => w'.cell? ⟨g, 0, none⟩ = some (.string x.f0) ∧ w'.cell? ⟨g, 1, none⟩ = some (.string x.f1)) (ds := []) #[false, false, false, false, false, false, false, false] (by kernel_rfl) rfl rfl ⟨z0, z1⟩ (fun hHeld => ?_)
          clear z0 z1
          generalize W4.drew = W5 at HBU5 HB5 HBK5 HSZ5 hHeld ⊢
          refine pure_ (i := 0) (N := (some 26)) (v := ?_) (a' := ?_) #[true, false, false, false, false, false, false, false] rfl rfl (by kernel_rfl) (fun _ _ _ h => h) (Or.inl ⟨by rfl, ?_⟩) ?_ ?_
          rotate_left
          · intro w'
            go_simp
            with_reducible rfl
          rotate_left
          · simp only [Act.put, List.setIfInBounds_toArray, List.set_cons_zero, List.set_cons_succ, i64_w, i32_w]
            rfl
          refine take_ (i := 1) (N := (some 27)) (v := ?_) (a' := ?_) #[true, true, false, false, false, false, false, false] rfl rfl (by kernel_rfl) (fun _ _ _ h => h) (Or.inl ⟨by rfl, ?_⟩) hHeld ?_ ?_
          rotate_left
          · rintro w' ⟨s0, s1⟩
            go_simp
            with_reducible rfl
          rotate_left
          · simp only [Act.put, List.setIfInBounds_toArray, List.set_cons_zero, List.set_cons_succ, i64_w, i32_w]
            rfl
          refine pure_ (i := 2) (N := (some 28)) (v := ?_) (a' := ?_) #[true, true, true, false, false, false, false, false] rfl rfl (by kernel_rfl) (fun _ _ _ h => h) (Or.inl ⟨by rfl, ?_⟩) ?_ ?_
          rotate_left
          · intro w'
            go_simp
            with_reducible rfl
          rotate_left
          · simp only [Act.put, List.setIfInBounds_toArray, List.set_cons_zero, List.set_cons_succ, i64_w, i32_w]
            rfl
          refine pure_ (i := 3) (N := (some 29)) (v := ?_) (a' := ?_) #[true, true, true, true, false, false, false, false] rfl rfl (by kernel_rfl) (fun _ _ _ h => h) (Or.inl ⟨by rfl, ?_⟩) ?_ ?_
          rotate_left
          · intro w'
            go_simp
            with_reducible rfl
          rotate_left
          · simp only [Act.put, List.setIfInBounds_toArray, List.set_cons_zero, List.set_cons_succ, i64_w, i32_w]
            rfl
          refine take_ (i := 4) (N := (some 30)) (v := ?_) (a' := ?_) #[true, true, true, true, true, false, false, false] rfl rfl (by kernel_rfl) (fun _ _ _ h => h) (Or.inl ⟨by rfl, ?_⟩) hHeld ?_ ?_
          rotate_left
          · rintro w' ⟨s0, s1⟩
            go_simp
            with_reducible rfl
          rotate_left
          · simp only [Act.put, List.setIfInBounds_toArray, List.set_cons_zero, List.set_cons_succ, i64_w, i32_w]
            rfl
          refine one_ (i := 5) (N := (some 31)) #[true, true, true, true, true, true, false, false] rfl rfl (by kernel_rfl) (by decide) (fun K hK => ?_)
          refine goes_ Try.func104 (by kernel_rfl) rfl #[.string x.f1] (by rfl) rfl rfl (by first | (simp; done) | ((try simp only [List.map_toArray, List.map_cons, List.map_nil]); first | done | rfl)) ?_
          (with_reducible refine (HQ.out _).mono ?_)
          rintro e W6 ⟨rfl, hb6⟩
          refine ⟨_, rfl, ?_⟩
          have HBU6 := Aside0.mk (bKeep HBU5.out hb6)
          have HB6 := Aside0.mk (Below.trans HB5.out (hb6.mono HSZ5.out))
          have HBK6 := Aside0.mk (blk_below HBK5.out hb6)
          have HSZ6 := Aside0.mk (Nat.le_trans HSZ5.out hb6.size)
          clear hb6 HBU5 HB5 HBK5 HSZ5
          refine hK.out _ _ ⟨(blk_cell HBK6.out 0).trans rfl, (blk_cell HBK6.out 1).trans rfl⟩ (fun hHeld => ?_)
          clear hK K
          refine norm_ (a' := ?_) ?_ ?_
          rotate_left
          · show Act.put _ (some 31) _ = _
            simp only [Act.put, List.setIfInBounds_toArray, List.set_cons_zero, List.set_cons_succ, i64_w, i32_w]
            rfl
          refine pure_ (i := 6) (N := (some 32)) (v := ?_) (a' := ?_) #[true, true, true, true, true, true, true, false] rfl rfl (by kernel_rfl) (fun _ _ _ h => h) (Or.inl ⟨by rfl, ?_⟩) ?_ ?_
          rotate_left
          · intro w'
            go_simp
            with_reducible rfl
          rotate_left
          · simp only [Act.put, List.setIfInBounds_toArray, List.set_cons_zero, List.set_cons_succ, i64_w, i32_w]
            rfl
          refine one_ (i := 7) (N := (some 33)) #[true, true, true, true, true, true, true, true] rfl rfl (by kernel_rfl) (by decide) (fun K hK => ?_)
          refine goes_ Try.func103 (by kernel_rfl) rfl #[.pointer (some ⟨b, 0, none⟩), .string (x.f0 ++ ⟨#[61]⟩ ++ ⟨(Hl.qt x.f1.toList).toArray⟩)] (by rfl) rfl rfl (by first | (simp; done) | ((try simp only [List.map_toArray, List.map_cons, List.map_nil]); first | done | rfl)) ?_
          (with_reducible refine (bWrite b b _ _ W6 HBU6.out HLN2.out HSZ6.out).mono ?_)
          rintro e W7 ⟨rfl, hu7, hb7, hk7⟩
          refine ⟨_, rfl, ?_⟩
          have HBU7 := Aside0.mk hu7
          have HB7 := Aside0.mk (Below.trans HB6.out hb7)
          clear hu7
          refine hK.out _ _ ⟨(blk_cell (hk7 _ _ _ HBK6.out (by decide) (by decide)) 0).trans rfl, (blk_cell (hk7 _ _ _ HBK6.out (by decide) (by decide)) 1).trans rfl⟩ (fun hHeld => ?_)
          clear hK K hb7 hk7
          refine norm_ (a' := ?_) ?_ ?_
          rotate_left
          · show Act.put _ (some 33) _ = _
            simp only [Act.put, List.setIfInBounds_toArray, List.set_cons_zero, List.set_cons_succ, i64_w, i32_w]
            rfl
          refine done_ (by kernel_rfl) ?_
          go_wp2_with fail
          go_roundg (m.length - (i + 1))
          case measure => omega
          case rel => exact ⟨i + 1, by go_num, hlt, Nat.le_refl _, ⟨by have := HBU7.out; rw [HEND3.out] at this; exact this⟩, HB7⟩
      · have hltz : ¬ (i : Int) < (m.length : Int) := by omega
        have hsz : b ≤ wr.heap.size := by have := HB.out.size; rw [← HBE.out] at this; exact this
        have HE := Aside0.mk (bString b b _ wr HBU.out hsz)
        have HW1 := Aside0.mk (show b ≤ W1.heap.size by rw [HBE.out]; exact Nat.le_refl _)
        have hno : ¬ 9223372036854775807 < (Hl.cont (m.take i)).length + 1 := by
          have h1 := Hl.cont_len (l := m.take i) (fun y hy => HMD.out.2.1 y (List.mem_of_mem_take hy))
          have h2 := HMD.out.2.2.2
          rw [List.length_take, Nat.min_eq_left (by omega)] at h1
          omega
        clear hsz
        go_wp2_with (go_at_call 105; (with_reducible refine HE.out.mono ?_); rintro e W8 ⟨rfl, hb8⟩; have HB8 := Aside0.mk (Below.trans HB.out hb8); clear hb8)
        go_ret
        refine ⟨?_, ?_⟩
        · rw [HT.out, List.take_of_length_le (show m.length ≤ i by omega), ← Hl.cont_txt HMD.out.2.2.1]
          show Ending.returned (.string ((⟨(Hl.cont m).toArray⟩ : ByteArray) ++ ⟨[125].toArray⟩)) = _
          rw [str_add]
        · have := HB8.out
          rw [HBE.out] at this
          exact below_step HB1.out this
end
end Go.Proofs.Ytcgocdhffcnleaa.PHead
