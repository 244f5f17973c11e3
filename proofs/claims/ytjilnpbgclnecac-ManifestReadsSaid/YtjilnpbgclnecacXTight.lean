/- A row of one's own that is either as all are, or a literal of bytes that the run-time has marked behind its end (what the conversion of a constant string leaves): append. -/
import Derived.Test.YtjilnpbgclnecacXHand
import Derived.Lib.SlBytesConst
set_option linter.unusedVariables false
set_option linter.unusedSimpArgs false
namespace Go.Proofs.Ytjilnpbgclnecac.XT
open Go Go.RowKit Go.Proofs.YtjilnpbgclnecacW.PrintWords Go.Proofs.YtjilnpbgclnecacW.PrintLast Go.Proofs.YtjilnpbgclnecacW.PrintMore
/-- A row of numbers that lies whole in a block, without room; its mark is whatever. -/
def Tight (k : IntKind) (e : Nat) (W : World) (base : Nat) (ok : Nat → Prop) (v : Value) (xs : List Int) : Prop :=
  ∃ g fr, v = .slice (some ⟨g, 0, none⟩) xs.length xs.length ∧ base ≤ g ∧ ok g ∧ W.heap[g]? = some (.cells (nums k xs).toArray e fr)
def RT (k : IntKind) (e : Nat) (W : World) (base : Nat) (ok : Nat → Prop) (v : Value) (xs : List Int) : Prop := (Kd.int k).R e W base ok v xs ∨ Tight k e W base ok v xs
section
variable {k : IntKind} {e base : Nat} {W W1 : World} {ok ok' : Nat → Prop} {v : Value} {xs : List Int}
theorem RT.below (h : RT k e W base ok v xs) (hb : Below W.heap.size W W1) : RT k e W1 base ok v xs := by
  rcases h with h | ⟨g, fr, h1, h2, h3, h4⟩
  · exact .inl (Kd.R_below h hb)
  · exact .inr ⟨g, fr, h1, h2, h3, blk_below h4 hb⟩
theorem RT.drew (h : RT k e W base ok v xs) : RT k e W.drew base ok v xs := h.below ((Below.refl _ _).drew)
theorem RT.slice (h : RT k e W base ok v xs) : ∃ A c, v = .slice A xs.length c := by
  rcases h with h | ⟨g, fr, h1, h2, h3, h4⟩
  · exact Kd.R_slice h
  · exact ⟨_, _, h1⟩
theorem RT.own (h : RT k e W base ok v xs) (b : Nat) (hb : v.ownBlock = some b) : ok b := by
  rcases h with h | ⟨g, fr, rfl, h2, h3, h4⟩
  · exact h.1 b hb
  · injection hb with hb
    exact hb ▸ h3
theorem RT.mono (h : RT k e W base ok v xs) (hok : ∀ k, ok k → ok' k) : RT k e W base ok' v xs := by
  rcases h with h | ⟨g, fr, h1, h2, h3, h4⟩
  · exact .inl (Kd.R_mono h hok)
  · exact .inr ⟨g, fr, h1, h2, hok _ h3, h4⟩
theorem RT.lt (h : RT k e W base ok v xs) : RT k e W base (fun b => ok b ∧ b < W.heap.size) v xs := by
  rcases h with h | ⟨g, fr, h1, h2, h3, h4⟩
  · exact .inl ⟨fun b hb => ⟨h.1 b hb, Kd.R_lt h b hb⟩, h.2.imp_ (fun _ _ hp => hp)⟩
  · exact .inr ⟨g, fr, h1, h2, ⟨h3, blk_lt h4⟩, h4⟩
theorem Tight.below (h : Tight k e W base ok v xs) (hb : Below W.heap.size W W1) : Tight k e W1 base ok v xs := by
  obtain ⟨g, fr, h1, h2, h3, h4⟩ := h
  exact ⟨g, fr, h1, h2, h3, blk_below h4 hb⟩
theorem Tight.lt (h : Tight k e W base ok v xs) : ∀ b, v.ownBlock = some b → b < W.heap.size := by
  obtain ⟨g, fr, rfl, h2, h3, h4⟩ := h
  intro b hb
  have : g = b := by injection hb
  exact this ▸ blk_lt h4
theorem Tight.okk (h : Tight k e W base ok v xs) (hok : ∀ b, v.ownBlock = some b → ok' b) : Tight k e W base ok' v xs := by
  obtain ⟨g, fr, rfl, h2, h3, h4⟩ := h
  exact ⟨g, fr, rfl, h2, hok g rfl, h4⟩
theorem Tight.ne {g t : Nat} {cs : Array Value} {fr : Nat × Nat} (h : Tight k e W base ok v xs) (hb : W.heap[g]? = some (.cells cs t fr)) (ht : t ≠ e) : some g ≠ v.ownBlock := by
  obtain ⟨g', fr', rfl, h2, h3, h4⟩ := h
  intro he
  have : g = g' := by injection he
  subst this
  rw [h4] at hb
  injection hb with hb
  injection hb with _ hb
  exact ht hb.symm
end
section
variable {P : Program} {ops : Array Oper} {rest : List Oper} {o : Oper} {a : Act} {Q : Exit → Act → World → Prop} {Kc : Act → World → Prop}
theorem run_append_tight (k : IntKind) {w0 W : World} (base : Nat) (ty t e : TypeId) (z : Value) (bytes : Nat)
    (ht : P.underlying t = some (.slice e)) (hinfo : (P.info? e).map (fun i => (i.zero, i.size, i.bytes)) = some (some z, 1, bytes)) (hz : z.cells.size = 1) (hb0 : 0 < bytes)
    (v : Value) (xs ys : List Int) (A : Option Addr) (m c : Nat) (ok : Nat → Prop)
    (HO : Tight k e W base ok v xs) (HR : (Kd.int k).C W A m ys) (hm0 : 0 < m) (hfresh : ∀ k, W.heap.size ≤ k → ok k) (hbase : base ≤ W.heap.size) (hl : (xs.length + m) * bytes ≤ 140737488355328) :
    ∃ v1 w1, (Builtin.append_ #[t, t] ty #[v, .slice A m c]).run P W = .ok v1 w1 ∧ (Kd.int k).R e w1 base ok v1 (xs ++ ys) ∧ W.grownBy w1 v.ownBlock ∧ (∃ b, v1.ownBlock = some b ∧ W.heap.size ≤ b) := by
  obtain ⟨i0, hi, hzz⟩ := Option.map_eq_some_iff.1 hinfo
  simp only [Prod.mk.injEq] at hzz
  obtain ⟨hz0, hz1, hz2⟩ := hzz
  obtain ⟨g, fr, rfl, hbg, hok, hg⟩ := HO
  have hm : ys.length = m := HR.1
  have hlen : xs.length + m ≤ 140737488355328 := Nat.le_trans (Nat.le_mul_of_pos_right _ hb0) hl
  obtain ⟨ad, hA, _⟩ := HR.2.2 hm0
  subst hA
  have hnews : ∀ j u, (nums k ys)[j]? = some u → W.cell? (ad.add j) = some u := by
    intro j u hu
    have hj : j < ys.length := by
      obtain ⟨hj, _⟩ := List.getElem?_eq_some_iff.1 hu
      rwa [nums_length] at hj
    obtain ⟨ad', he, hc⟩ := Kd.at_int HR (j : Int) (by omega) (by omega)
    injection he with he
    subst he
    rw [Int.toNat_natCast] at hc
    rw [hc, ← hu]
    simp [nums, rd, rdOf, hj]
  have holds : ∀ j u, (nums k xs)[j]? = some u → W.cell? ((⟨g, 0, none⟩ : Addr).add j) = some u := by
    intro j u hu
    rw [show (⟨g, 0, none⟩ : Addr).add j = ⟨g, j, none⟩ from by rw [add_plain]]
    rw [cell_of_row W g j _ e fr hg]
    simpa using hu
  have hr := run_append_grow (P := P) W t ty e i0 z ht hi hz0 ⟨g, 0, none⟩ xs.length xs.length (nums k xs) (by rw [nums_length, hz1]; omega) holds ad m c (nums k ys) (by rw [nums_length, hz1]; omega) hnews (by omega) (by omega) (by rw [hz2]; exact growslice_fits (by omega) hl)
  refine ⟨_, _, hr, ?_, ⟨rfl, rfl, rfl, by simp, fun k hk _ => heap_alloc_old W.drew _ hk⟩, ⟨_, rfl, Nat.le_refl _⟩⟩
  have hge := grownCap_ge W (xs.length + m) xs.length e
  refine Kd.R_of_own (enc := Value.int k) (h1 := fun _ => rfl) ⟨by rw [encs_length]; omega, .inr ⟨W.heap.size, grownCap W (xs.length + m) xs.length e, _, by rw [List.length_append, hm], hbase, heap_alloc_new W.drew _, by rw [List.length_append, hm]; exact hge, grownCap_le_maxLen W _ _ e (by simp only [maxLen]; omega), ?_, ?_⟩⟩ (fun b hb => ?_)
  · simp only [Array.size_append, List.size_toArray, size_zeroCells, hz, nums_length]
    omega
  · simp only [Array.toList_append, List.append_assoc]
    rw [show (encs (Value.int k) (xs ++ ys)) = nums k xs ++ nums k ys from by simp [encs, nums]]
    rw [← List.append_assoc, show (xs ++ ys).length * 1 = (nums k xs ++ nums k ys).length from by simp [nums]]
    exact List.take_left
  · have hb : W.heap.size = b := by injection hb
    exact hfresh b (by omega)
theorem RT_append_step (k : IntKind) {w0 W : World} (base : Nat) (hw : Region.wanted o (yielded ops a.tmps) = true) (s x : Operand) (t e : TypeId) (z : Value) (bytes : Nat)
    (ho : o.op = .call { callee := .builtin .append, args := #[s, x], argTypes := #[t, t] })
    (ht : P.underlying t = some (.slice e)) (hinfo : (P.info? e).map (fun i => (i.zero, i.size, i.bytes)) = some (some z, 1, bytes)) (hz : z.cells.size = 1) (hb0 : 0 < bytes)
    (v : Value) (xs ys : List Int) (A : Option Addr) (m c : Nat) (ok : Nat → Prop) (hs : a.eval s = v) (hx : a.eval x = .slice A m c)
    (HO : RT k e W base ok v xs) (HR : (Kd.int k).C W A m ys) (hm0 : 0 < m) (hfresh : ∀ k, W.heap.size ≤ k → ok k)
    (HB : Below base w0 W) (hbase : base ≤ W.heap.size) (hl : (xs.length + m) * bytes ≤ 140737488355328)
    (h : ∀ v1 w1, (Kd.int k).R e w1 base ok v1 (xs ++ ys) → Below base w0 w1 → W.grownBy w1 v.ownBlock → (v1.ownBlock = v.ownBlock ∨ ∃ b, v1.ownBlock = some b ∧ W.heap.size ≤ b) → Kc (a.put o.dst v1) w1) :
    if Region.wanted o (yielded ops a.tmps) = true then Oper.wp P o a W Kc Q else Kc (a.put o.dst undef) W := by
  rcases HO with HO | HO
  · exact Kd.R_append_rows_step (Kd.int k) (w0 := w0) base hw s x t e z bytes ho ht hinfo hz (Nat.zero_lt_one) hb0 v xs ys A m c ok (fun _ => False) hs hx HO HR (fun _ _ h => h) (fun _ h => h.elim) hfresh HB hbase hl h
  · obtain ⟨v1, w1, hr1, h1, hg, hat⟩ := run_append_tight (P := P) k (w0 := w0) base o.type t e z bytes ht hinfo hz hb0 v xs ys A m c ok HO HR hm0 hfresh hbase hl
    rw [if_pos hw]
    unfold Oper.wp execOp
    simp only [ho, resolve, invoke, builtin, Sem.run_bind, Sem.run_pure, Result.andThen_ok, List.map_toArray, List.map_cons, List.map_nil, hs, hx, hr1]
    exact h v1 w1 h1 (HB.grown hg hbase (fun b hb => by obtain ⟨g, fr, rfl, hbg, _, _⟩ := HO; have hb : g = b := (by injection hb); omega)) hg (.inr hat)
theorem T_append (k : IntKind) {w0 W : World} (base : Nat) (hgd : o.guard = none) (s x : Operand) (t e : TypeId) (z : Value) (bytes : Nat)
    (ho : o.op = .call { callee := .builtin .append, args := #[s, x], argTypes := #[t, t] })
    (ht : P.underlying t = some (.slice e)) (hinfo : (P.info? e).map (fun i => (i.zero, i.size, i.bytes)) = some (some z, 1, bytes)) (hz : z.cells.size = 1) (hb0 : 0 < bytes)
    (v : Value) (xs ys : List Int) (A : Option Addr) (m c : Nat) (ok : Nat → Prop) (hs : a.eval s = v) (hx : a.eval x = .slice A m c)
    (HO : Tight k e W base ok v xs) (HR : (Kd.int k).C W A m ys) (hm0 : 0 < m) (hfresh : ∀ k, W.heap.size ≤ k → ok k)
    (HB : Below base w0 W) (hbase : base ≤ W.heap.size) (hl : (xs.length + m) * bytes ≤ 140737488355328)
    (h : ∀ v1 w1, (Kd.int k).R e w1 base ok v1 (xs ++ ys) → Below base w0 w1 → W.grownBy w1 v.ownBlock → (v1.ownBlock = v.ownBlock ∨ ∃ b, v1.ownBlock = some b ∧ W.heap.size ≤ b) → wpList P ops Q rest (a.put o.dst v1) w1) :
    wpList P ops Q (o :: rest) a W := by
  obtain ⟨v1, w1, hr1, h1, hg, hat⟩ := run_append_tight (P := P) k (w0 := w0) base o.type t e z bytes ht hinfo hz hb0 v xs ys A m c ok HO HR hm0 hfresh hbase hl
  refine wpList_plain hgd fun K hK => ?_
  unfold Oper.wp execOp
  simp only [ho, resolve, invoke, builtin, Sem.run_bind, Sem.run_pure, Result.andThen_ok, List.map_toArray, List.map_cons, List.map_nil, hs, hx, hr1]
  exact hK _ _ (h v1 w1 h1 (HB.grown hg hbase (fun b hb => by obtain ⟨g, fr, rfl, hbg, _, _⟩ := HO; have hb : g = b := (by injection hb); omega)) hg (.inr hat))
/-- A literal's row and its conversion to its own type. -/
theorem lit_bytes {W : World} {o2 : Oper} (hg1 : o.guard = none) {N : Tmp} (hd1 : o.dst = some N) (hg2 : o2.guard = none) (t e : TypeId) (ho2 : o2.op = .convert t t (.tmp N)) (ht : P.underlying t = some (.slice e)) (he : P.underlying e = some (.int .u8)) (xs : List Int)
    (hr : (execOp a.eval o).run P W = .ok (.value (.slice (some ⟨W.heap.size, 0, none⟩) xs.length xs.length)) (W.alloc (.cells (nums .u8 xs).toArray e))) (hev : ∀ v, (a.put (some N) v).eval (.tmp N) = v)
    (h : ∀ v w1, Tight .u8 e w1 W.heap.size (fun _ => True) v xs → Below W.heap.size W w1 → wpList P ops Q rest ((a.put (some N) v).put o2.dst v) w1) : wpList P ops Q (o :: o2 :: rest) a W := by
  refine Kd.event_run hg1 hr ?_
  rw [hd1]
  have hc := Go.Lib.run_convert_bytes_const (P := P) W t e (nums .u8 xs).toArray xs.length xs.length ht he
  refine Kd.event_run (v := .slice (some ⟨W.heap.size, 0, none⟩) xs.length xs.length) (w1 := W.alloc (.cells (nums .u8 xs).toArray e ((nums .u8 xs).toArray.size, (nums .u8 xs).toArray.size + 1))) hg2 ?_ (h _ _ ⟨W.heap.size, _, rfl, Nat.le_refl _, trivial, blk_new W _⟩ (below_alloc (Below.refl _ _) _))
  unfold execOp
  simp only [ho2, hev, Sem.run_bind, hc, Result.andThen_ok, Sem.run_pure]
end
end Go.Proofs.Ytjilnpbgclnecac.XT
