/- Rows appended to a slice that has no room (x[:n:n]): always a new row; and parts of rows that are read, whatever their elements lead to. -/
import Derived.Test.YtjilnpbgclnecacXBase
import Derived.OwnWalk
set_option linter.unusedVariables false
set_option linter.unusedSimpArgs false
namespace Go.Proofs.Ytjilnpbgclnecac.XF
open Go Go.RowKit Go.Proofs.YtjilnpbgclnecacW.PrintWords
section
variable {α : Type} {R : α → List Value → Prop} {sz n c : Nat} {W : World} {A : Option Addr} {xs : List α}
theorem rr_take (h : ReadsRow R sz W A xs.length xs) (m : Nat) (hm : m ≤ xs.length) : ReadsRow R sz W A m (xs.take m) := by
  refine ⟨by rw [List.length_take]; omega, by have := h.2.1; omega, fun hp => ?_⟩
  obtain ⟨ad, e, hc⟩ := h.2.2 (by omega)
  refine ⟨ad, e, fun j p hj => hc j p ?_⟩
  rw [List.getElem?_take] at hj
  split at hj
  · exact hj
  · cases hj
theorem rr_drop (h : ReadsRow R sz W A xs.length xs) (m : Nat) (hm : m ≤ xs.length) (hc : xs.length ≤ c) : ReadsRow R sz W (if c = m then A else A.map (·.add (m * sz))) (xs.length - m) (xs.drop m) := by
  refine ⟨List.length_drop, by have := h.2.1; omega, fun hp => ?_⟩
  obtain ⟨ad, rfl, hcell⟩ := h.2.2 (by omega)
  rw [if_neg (by omega)]
  refine ⟨_, rfl, fun j p hj => ?_⟩
  rw [List.getElem?_drop] at hj
  obtain ⟨cs, h1, h2, h3⟩ := hcell (m + j) p hj
  refine ⟨cs, h1, h2, fun i u hu => ?_⟩
  have := h3 i u hu
  rw [Nat.add_mul] at this
  have e : (ad.add (m * sz)).add (j * sz + i) = ad.add (m * sz + j * sz + i) := by
    by_cases h4 : j * sz + i = 0
    · rw [h4, show m * sz + j * sz + i = m * sz by omega]
      simp [Addr.add]
    · unfold Addr.add
      by_cases h0 : m * sz = 0
      · rw [if_neg h4, if_pos h0, if_neg (by omega), show m * sz + j * sz + i = j * sz + i by omega]
      · rw [if_neg h4, if_neg h0, if_neg (by omega), Nat.add_assoc, Nat.add_assoc]
  rw [e]
  exact this
end
/-- What an append to a slice without room leaves. -/
theorem run_append_full {P : Program} (w : World) (base : Nat) (t ty e : TypeId) (i : TypeInfo) (z : Value) (size bytes : Nat) (ht : P.underlying t = some (.slice e)) (hi : P.info? e = some i) (hz : i.zero = some z)
    (hsize : i.size = size) (hby : i.bytes = bytes) (hzs : z.cells.size = size) (A : Option Addr) (n cp : Nat) (olds : List Value) (hlo : olds.length = n * size) (hA : A = none → n = 0 ∧ cp = 0) (holds : ∀ ad, A = some ad → ∀ j v, olds[j]? = some v → w.cell? (ad.add j) = some v)
    (a : Addr) (m c : Nat) (news : List Value) (hl : news.length = m * size) (hnews : ∀ j u, news[j]? = some u → w.cell? (a.add j) = some u) (hm : 0 < m) (hcp : cp < n + m) (hbytes : (n + m) * bytes ≤ 140737488355328) (h63 : n + m ≤ maxLen) (hbase : base ≤ w.heap.size) :
    ∃ v' w', (Builtin.append_ #[t, t] ty #[.slice A n cp, .slice (some a) m c]).run P w = .ok v' w' ∧ w'.ownsRow base e size v' (n + m) (olds ++ news) ∧ Below w.heap.size w w' ∧ v'.ownBlock = some w.heap.size := by
  subst hsize
  subst hby
  have hsmall : n + m ≤ 9223372036854775807 := by simp only [maxLen] at h63; omega
  have hlen : (olds ++ news).length = (n + m) * i.size := by rw [List.length_append, hlo, hl, Nat.add_mul]
  have grown : ∀ (old : Nat), old < n + m →
      (w.drew.alloc (.cells (olds.toArray ++ news.toArray ++ Builtin.zeroCells z.cells (grownCap w (n + m) old e - (n + m))) e)).ownsRow base e i.size
        (.slice (some ⟨w.heap.size, 0, none⟩) (n + m) (grownCap w (n + m) old e)) (n + m) (olds ++ news) ∧
      Below w.heap.size w (w.drew.alloc (.cells (olds.toArray ++ news.toArray ++ Builtin.zeroCells z.cells (grownCap w (n + m) old e - (n + m))) e)) := by
    intro old ho
    have hge := grownCap_ge w (n + m) old e
    have hcm : grownCap w (n + m) old e ≤ maxLen := grownCap_le_maxLen w (n + m) old e h63
    refine ⟨⟨hlen, .inr ⟨w.heap.size, _, _, rfl, hbase, heap_alloc_new w.drew _, hge, hcm, ?_, ?_⟩⟩, below_alloc (below_drew (Below.refl _ _)) _⟩
    · simp only [Array.size_append, List.size_toArray, size_zeroCells, hzs, hlo, hl, ← Nat.add_mul]
      congr 1
      omega
    · simp only [Array.toList_append, List.append_assoc]
      rw [← List.append_assoc, ← hlen]
      exact List.take_left
  rcases A with _ | b
  · obtain ⟨rfl, rfl⟩ := hA rfl
    have ho : olds = [] := List.eq_nil_of_length_eq_zero (by simpa using hlo)
    subst ho
    have hr := run_append_nil (P := P) w t ty e i z ht hi hz a m c news hl hnews hm (by omega) (by have hb := hbytes; simp only [Nat.zero_add] at hb; omega)
    have hgr := grown 0 (by omega)
    simp only [Nat.zero_add, List.nil_append, Array.empty_append] at hgr ⊢
    exact ⟨_, _, hr, hgr.1, hgr.2, rfl⟩
  · have hr := run_append_grow (P := P) w t ty e i z ht hi hz b n cp olds hlo (holds b rfl) a m c news hl hnews hcp (by omega) (growslice_fits hcp hbytes)
    have hgr := grown cp hcp
    exact ⟨_, _, hr, hgr.1, hgr.2, rfl⟩
section
variable {P : Program} {ops : Array Oper} {o : Oper} {rest : List Oper} {a : Act} {Q : Exit → Act → World → Prop} {Kc : Act → World → Prop} {W : World} {α : Type}
theorem R_append_full (d : Kd α) {Rr : α → List Value → Prop} (base : Nat) (hgd : o.guard = none) (s x : Operand) (t e : TypeId) (z : Value) (bytes : Nat)
    (ho : o.op = .call { callee := .builtin .append, args := #[s, x], argTypes := #[t, t] })
    (ht : P.underlying t = some (.slice e)) (hinfo : (P.info? e).map (fun i => (i.zero, i.size, i.bytes)) = some (some z, d.sz, bytes)) (hz : z.cells.size = d.sz) (hs0 : 0 < d.sz) (hb0 : 0 < bytes)
    (A B : Option Addr) (n cp m c : Nat) (xs ys : List α) (ok okp : Nat → Prop) (hs : a.eval s = .slice A n cp) (hx : a.eval x = .slice B m c)
    (HS : ReadsRow Rr d.sz W A n xs) (HR : ReadsRow Rr d.sz W B m ys) (hA : A = none → cp = 0) (hm : 0 < m) (hcp : cp < n + m) (hKM : ∀ x cs, Rr x cs → d.M W base okp x cs) (hokp : ∀ k, okp k → ok k) (hfresh : ok W.heap.size)
    (hbase : base ≤ W.heap.size) (hl : (n + m) * bytes ≤ 140737488355328)
    (h : ∀ v1 w1, d.R e w1 base ok v1 (xs ++ ys) → Below W.heap.size W w1 → v1.ownBlock = some W.heap.size → wpList P ops Q rest (a.put o.dst v1) w1) :
    wpList P ops Q (o :: rest) a W := by
  obtain ⟨i0, hi, hzz⟩ := Option.map_eq_some_iff.1 hinfo
  simp only [Prod.mk.injEq] at hzz
  obtain ⟨hz0, hz1, hz2⟩ := hzz
  have hlen : n + m ≤ 140737488355328 := Nat.le_trans (Nat.le_mul_of_pos_right _ hb0) hl
  have hB : ∃ bd, B = some bd := by obtain ⟨bd, e, _⟩ := HR.2.2 hm; exact ⟨bd, e⟩
  obtain ⟨bd, rfl⟩ := hB
  obtain ⟨news, hnr, hnc⟩ := ReadsRow.inner_ HR
  have hnM : Reps (d.M W base okp) d.sz ys news := hnr.imp_ (fun p c hp => hKM p c hp)
  obtain ⟨olds, hor, hoc⟩ : ∃ olds, Reps (d.M W base okp) d.sz xs olds ∧ ∀ ad, A = some ad → ∀ j u, olds[j]? = some u → W.cell? (ad.add j) = some u := by
    rcases A with _ | ad
    · have hn : n = 0 := by
        rcases Nat.eq_zero_or_pos n with h0 | h0
        · exact h0
        · obtain ⟨ad, h, _⟩ := HS.2.2 h0
          cases h
      have hx0 : xs = [] := List.eq_nil_of_length_eq_zero (HS.1.trans hn)
      subst hx0
      exact ⟨[], Reps.none _ _, fun ad h => by cases h⟩
    · obtain ⟨olds, h1, h2⟩ := ReadsRow.inner_ HS
      exact ⟨olds, h1.imp_ (fun p c hp => hKM p c hp), fun ad' h => by injection h with h; subst h; exact h2⟩
  have hA2 : A = none → n = 0 ∧ cp = 0 := fun h => by
    refine ⟨?_, hA h⟩
    rcases Nat.eq_zero_or_pos n with h0 | h0
    · exact h0
    · obtain ⟨ad, h2, _⟩ := HS.2.2 h0
      rw [h] at h2
      cases h2
  obtain ⟨v1, w1, hrun, hown, hbel, hblk⟩ := run_append_full (P := P) W base t o.type e i0 z d.sz bytes ht hi hz0 hz1 hz2 hz A n cp olds (by rw [hor.1, HS.1]) hA2 hoc bd m c news (by rw [hnM.1, HR.1]) hnc hm hcp hl (by simp only [maxLen]; omega) hbase
  have hR : d.R e w1 base ok v1 (xs ++ ys) := by
    refine ⟨fun k hk => ?_, olds ++ news, ?_, ?_⟩
    · rw [hblk] at hk
      injection hk with hk
      rw [← hk]
      exact hfresh
    · rw [List.length_append, HS.1, HR.1]
      exact hown
    · refine (Kd.reps_append hor hnM).imp_ (fun p c hp => d.M_mono (fun k hk => ⟨hokp k hk.1, fun he => ?_⟩) (Kd.M_below (d.M_bound hp) hbel))
      rw [hblk] at he
      injection he with he
      have := hk.2.2.1
      omega
  refine wpList_plain hgd fun K hK => ?_
  unfold Oper.wp execOp
  simp only [ho, resolve, invoke, builtin, Sem.run_bind, Sem.run_pure, Result.andThen_ok, List.map_toArray, List.map_cons, List.map_nil, hs, hx, hrun]
  exact hK _ _ (h v1 w1 hR hbel hblk)
theorem R_append_full_step (d : Kd α) {Rr : α → List Value → Prop} (base : Nat) (hw : Region.wanted o (yielded ops a.tmps) = true) (s x : Operand) (t e : TypeId) (z : Value) (bytes : Nat)
    (ho : o.op = .call { callee := .builtin .append, args := #[s, x], argTypes := #[t, t] })
    (ht : P.underlying t = some (.slice e)) (hinfo : (P.info? e).map (fun i => (i.zero, i.size, i.bytes)) = some (some z, d.sz, bytes)) (hz : z.cells.size = d.sz) (hs0 : 0 < d.sz) (hb0 : 0 < bytes)
    (A B : Option Addr) (n cp m c : Nat) (xs ys : List α) (ok okp : Nat → Prop) (hs : a.eval s = .slice A n cp) (hx : a.eval x = .slice B m c)
    (HS : ReadsRow Rr d.sz W A n xs) (HR : ReadsRow Rr d.sz W B m ys) (hA : A = none → cp = 0) (hm : 0 < m) (hcp : cp < n + m) (hKM : ∀ x cs, Rr x cs → d.M W base okp x cs) (hokp : ∀ k, okp k → ok k) (hfresh : ok W.heap.size)
    (hbase : base ≤ W.heap.size) (hl : (n + m) * bytes ≤ 140737488355328)
    (h : ∀ v1 w1, d.R e w1 base ok v1 (xs ++ ys) → Below W.heap.size W w1 → v1.ownBlock = some W.heap.size → Kc (a.put o.dst v1) w1) : if Region.wanted o (yielded ops a.tmps) = true then Oper.wp P o a W Kc Q else Kc (a.put o.dst undef) W := by
  obtain ⟨i0, hi, hzz⟩ := Option.map_eq_some_iff.1 hinfo
  simp only [Prod.mk.injEq] at hzz
  obtain ⟨hz0, hz1, hz2⟩ := hzz
  have hlen : n + m ≤ 140737488355328 := Nat.le_trans (Nat.le_mul_of_pos_right _ hb0) hl
  have hB : ∃ bd, B = some bd := by obtain ⟨bd, e, _⟩ := HR.2.2 hm; exact ⟨bd, e⟩
  obtain ⟨bd, rfl⟩ := hB
  obtain ⟨news, hnr, hnc⟩ := ReadsRow.inner_ HR
  have hnM : Reps (d.M W base okp) d.sz ys news := hnr.imp_ (fun p c hp => hKM p c hp)
  obtain ⟨olds, hor, hoc⟩ : ∃ olds, Reps (d.M W base okp) d.sz xs olds ∧ ∀ ad, A = some ad → ∀ j u, olds[j]? = some u → W.cell? (ad.add j) = some u := by
    rcases A with _ | ad
    · have hn : n = 0 := by
        rcases Nat.eq_zero_or_pos n with h0 | h0
        · exact h0
        · obtain ⟨ad, h, _⟩ := HS.2.2 h0
          cases h
      have hx0 : xs = [] := List.eq_nil_of_length_eq_zero (HS.1.trans hn)
      subst hx0
      exact ⟨[], Reps.none _ _, fun ad h => by cases h⟩
    · obtain ⟨olds, h1, h2⟩ := ReadsRow.inner_ HS
      exact ⟨olds, h1.imp_ (fun p c hp => hKM p c hp), fun ad' h => by injection h with h; subst h; exact h2⟩
  have hA2 : A = none → n = 0 ∧ cp = 0 := fun h => by
    refine ⟨?_, hA h⟩
    rcases Nat.eq_zero_or_pos n with h0 | h0
    · exact h0
    · obtain ⟨ad, h2, _⟩ := HS.2.2 h0
      rw [h] at h2
      cases h2
  obtain ⟨v1, w1, hrun, hown, hbel, hblk⟩ := run_append_full (P := P) W base t o.type e i0 z d.sz bytes ht hi hz0 hz1 hz2 hz A n cp olds (by rw [hor.1, HS.1]) hA2 hoc bd m c news (by rw [hnM.1, HR.1]) hnc hm hcp hl (by simp only [maxLen]; omega) hbase
  have hR : d.R e w1 base ok v1 (xs ++ ys) := by
    refine ⟨fun k hk => ?_, olds ++ news, ?_, ?_⟩
    · rw [hblk] at hk
      injection hk with hk
      rw [← hk]
      exact hfresh
    · rw [List.length_append, HS.1, HR.1]
      exact hown
    · refine (Kd.reps_append hor hnM).imp_ (fun p c hp => d.M_mono (fun k hk => ⟨hokp k hk.1, fun he => ?_⟩) (Kd.M_below (d.M_bound hp) hbel))
      rw [hblk] at he
      injection he with he
      have := hk.2.2.1
      omega
  refine event_step hw (v := v1) (w1 := w1) ?_ (h v1 w1 hR hbel hblk)
  unfold execOp
  simp only [ho, resolve, invoke, builtin, Sem.run_bind, Sem.run_pure, Result.andThen_ok, List.map_toArray, List.map_cons, List.map_nil, hs, hx, hrun]
end
end Go.Proofs.Ytjilnpbgclnecac.XF
