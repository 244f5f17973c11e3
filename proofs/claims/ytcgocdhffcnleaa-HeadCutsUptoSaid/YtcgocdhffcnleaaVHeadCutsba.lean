/- Parts of the proof of the law's row, put together: see the theorems' own lines. -/
import Derived.Test.YtcgocdhffcnleaaVHeadCutsax
import Derived.Test.YtcgocdhffcnleaaVHeadCutsaz
import Derived.Outline
import Derived.Maps.RangeWalk
import Derived.Test.YtcgocdhffcnleaaVHeadCutsag
import Derived.Test.YtcgocdhffcnleaaVHeadCutsao
/- A part of the proofs about the head: see the theorems' own lines. -/
namespace Go.Proofs.Ytcgocdhffcnleaa.PHead
open Go Go.RowKit Go.Proofs.YtcgocdhffcnleaaW.PrintWords Go.Proofs.YtcgocdhffcnleaaW.PrintLast Go.Proofs.YtcgocdhffcnleaaW.PrintMore Go.Proofs.Ytcgocdhffcnleaa.XB Go.Proofs.Ytcgocdhffcnleaa.PHeadPlays Go.Proofs.Ytcgocdhffcnleaa.XH
set_option linter.unusedVariables false
set_option linter.unusedSimpArgs false
/-! ### Cut, in plain lists -/
section
namespace Hd
def restOf (low : Int) (p : List S53 × List S44) : Option (List S53 × List S44) := if pos p.2 low = p.2.length then none else some (p.1, p.2.drop (pos p.2 low))
def goneOf (low : Int) (p : List S53 × List S44) : Option (List S53 × List S44) := if pos p.2 low = 0 then none else some (p.1, p.2.take (pos p.2 low))
/-- What stays while the series of 'left' are still to come, and what is gone. -/
def cutSl (low : Int) (left : Lit → Bool) (L : A) : A := L.filterMap fun p => if left (key p.1) = true then some p else restOf low p
def cutGl (low : Int) (left : Lit → Bool) (L : A) : A := L.filterMap fun p => if left (key p.1) = true then none else goneOf low p
def cutS (low : Int) (L : A) : A := L.filterMap (restOf low)
def cutG (low : Int) (L : A) : A := L.filterMap (goneOf low)
theorem cutSl_end {low : Int} {left : Lit → Bool} (L : A) (h : ∀ kl, left kl = false) : cutSl low left L = cutS low L := by
  unfold cutSl cutS
  congr 1
  funext p
  rw [h, if_neg (by simp)]
theorem cutGl_end {low : Int} {left : Lit → Bool} (L : A) (h : ∀ kl, left kl = false) : cutGl low left L = cutG low L := by
  unfold cutGl cutG
  congr 1
  funext p
  rw [h, if_neg (by simp)]
theorem fm_congr {f g : List S53 × List S44 → Option (List S53 × List S44)} : ∀ {l : A}, (∀ x ∈ l, f x = g x) → l.filterMap f = l.filterMap g
  | [], _ => rfl
  | a :: l, h => by
    rw [List.filterMap_cons, List.filterMap_cons, h a List.mem_cons_self, fm_congr (fun x hx => h x (List.mem_cons_of_mem _ hx))]
theorem cutSl_start {low : Int} {left : Lit → Bool} {L : A} (h : ∀ p ∈ L, left (key p.1) = true) : cutSl low left L = L := by
  unfold cutSl
  rw [fm_congr (g := some) (fun p hp => by rw [h p hp, if_pos rfl]), List.filterMap_some]
theorem cutGl_start {low : Int} {left : Lit → Bool} {L : A} (h : ∀ p ∈ L, left (key p.1) = true) : cutGl low left L = [] := by
  unfold cutGl
  rw [fm_congr (g := fun _ => none) (fun p hp => by rw [h p hp, if_pos rfl])]
  simp
/-- A key struck off. -/
def struck (left : Lit → Bool) (m : List S53) : Lit → Bool := fun z => left z && !z.sameKey (key m)
theorem struck_self (left : Lit → Bool) (m : List S53) : struck left m (key m) = false := by
  unfold struck
  rw [(WideAt.sameKey_iff (key_isKey m)).2 rfl]
  simp
theorem struck_other {left : Lit → Bool} {m q : List S53} (hm : Hl.made m) (hq : Hl.made q) (hne : q ≠ m) : struck left m (key q) = left (key q) := by
  unfold struck
  have h2 : (key q).sameKey (key m) = false := by
    cases hk : (key q).sameKey (key m) with
    | false => rfl
    | true => exact absurd (key_inj hq hm ((WideAt.sameKey_iff (key_isKey m)).1 hk)) hne
  rw [h2]
  simp
theorem sorted_mid {pl ql : A} {p : List S53 × List S44} (h : sorted (pl ++ p :: ql)) : (∀ q ∈ pl, lcl q.1 p.1 < 0) ∧ (∀ q ∈ ql, lcl p.1 q.1 < 0) := by
  obtain ⟨h1, h2, h3⟩ := List.pairwise_append.1 h
  exact ⟨fun q hq => h3 q hq p List.mem_cons_self, fun q hq => (List.pairwise_cons.1 h2).1 q hq⟩
theorem lcl_ne {a b : List S53} (h : lcl a b < 0) : a ≠ b := fun e => by
  have := lcl_zero.2 e
  omega
theorem cut_step {low : Int} {left : Lit → Bool} {L pl ql : A} {p : List S53 × List S44} (hL : L = pl ++ p :: ql) (hs : sorted L) (hm : ∀ q ∈ L, Hl.made q.1) (hl : left (key p.1) = true) :
    cutSl low left L = cutSl low left pl ++ p :: cutSl low left ql ∧ cutSl low (struck left p.1) L = cutSl low left pl ++ ((restOf low p).toList ++ cutSl low left ql) ∧
    cutGl low left L = cutGl low left pl ++ cutGl low left ql ∧ cutGl low (struck left p.1) L = cutGl low left pl ++ ((goneOf low p).toList ++ cutGl low left ql) := by
  subst hL
  obtain ⟨h1, h2⟩ := sorted_mid hs
  have hmp := hm p (by simp)
  have e1 : ∀ q ∈ pl, struck left p.1 (key q.1) = left (key q.1) := fun q hq => struck_other hmp (hm q (by simp [hq])) (lcl_ne (h1 q hq))
  have e2 : ∀ q ∈ ql, struck left p.1 (key q.1) = left (key q.1) := fun q hq => struck_other hmp (hm q (by simp [hq])) (Ne.symm (lcl_ne (h2 q hq)))
  have a1 : cutSl low (struck left p.1) pl = cutSl low left pl := fm_congr (fun q hq => by rw [e1 q hq])
  have a2 : cutSl low (struck left p.1) ql = cutSl low left ql := fm_congr (fun q hq => by rw [e2 q hq])
  have a3 : cutGl low (struck left p.1) pl = cutGl low left pl := fm_congr (fun q hq => by rw [e1 q hq])
  have a4 : cutGl low (struck left p.1) ql = cutGl low left ql := fm_congr (fun q hq => by rw [e2 q hq])
  refine ⟨?_, ?_, ?_, ?_⟩
  · unfold cutSl
    rw [List.filterMap_append, List.filterMap_cons, if_pos hl]
  · rw [← a1, ← a2]
    unfold cutSl
    rw [List.filterMap_append, List.filterMap_cons, struck_self, if_neg (by simp)]
    cases restOf low p <;> rfl
  · unfold cutGl
    rw [List.filterMap_append, List.filterMap_cons, if_pos hl]
  · rw [← a3, ← a4]
    unfold cutGl
    rw [List.filterMap_append, List.filterMap_cons, struck_self, if_neg (by simp)]
    cases goneOf low p <;> rfl
theorem restOf_some {low : Int} {p q : List S53 × List S44} (h : restOf low p = some q) : pos p.2 low < p.2.length ∧ q = (p.1, p.2.drop (pos p.2 low)) := by
  unfold restOf at h
  split at h
  · cases h
  · rename_i h1
    injection h with h
    have := pos_le p.2 low
    exact ⟨by omega, h.symm⟩
theorem goneOf_some {low : Int} {p q : List S53 × List S44} (h : goneOf low p = some q) : 0 < pos p.2 low ∧ q = (p.1, p.2.take (pos p.2 low)) := by
  unfold goneOf at h
  split at h
  · cases h
  · rename_i h1
    injection h with h
    exact ⟨by omega, h.symm⟩
theorem cutSl_mem {low : Int} {left : Lit → Bool} {L : A} {q : List S53 × List S44} (h : q ∈ cutSl low left L) : ∃ p ∈ L, q.1 = p.1 ∧ (q = p ∨ restOf low p = some q) := by
  obtain ⟨p, hp, h1⟩ := List.mem_filterMap.1 h
  split at h1
  · injection h1 with h1
    exact ⟨p, hp, by rw [h1], .inl h1.symm⟩
  · exact ⟨p, hp, by rw [(restOf_some h1).2], .inr h1⟩
theorem cutGl_mem {low : Int} {left : Lit → Bool} {L : A} {q : List S53 × List S44} (h : q ∈ cutGl low left L) : ∃ p ∈ L, q.1 = p.1 ∧ goneOf low p = some q := by
  obtain ⟨p, hp, h1⟩ := List.mem_filterMap.1 h
  split at h1
  · cases h1
  · exact ⟨p, hp, by rw [(goneOf_some h1).2], h1⟩
theorem fm_sorted {f : List S53 × List S44 → Option (List S53 × List S44)} (hf : ∀ p q, f p = some q → q.1 = p.1) {L : A} (h : sorted L) : sorted (L.filterMap f) := by
  refine List.Pairwise.filterMap f ?_ h
  intro a a' ha b hb b' hb'
  have hb : f a = some b := hb
  have hb' : f a' = some b' := hb'
  rw [hf a b hb, hf a' b' hb']
  exact ha
theorem cutSl_sorted {low : Int} {left : Lit → Bool} {L : A} (h : sorted L) : sorted (cutSl low left L) := fm_sorted (fun p q hq => by
  split at hq
  · injection hq with hq
    rw [hq]
  · rw [(restOf_some hq).2]) h
theorem cutGl_sorted {low : Int} {left : Lit → Bool} {L : A} (h : sorted L) : sorted (cutGl low left L) := fm_sorted (fun p q hq => by
  split at hq
  · cases hq
  · rw [(goneOf_some hq).2]) h
theorem cutSl_ok {low : Int} {left : Lit → Bool} {L : A} (h : Ok L) : Ok (cutSl low left L) := by
  refine ⟨cutSl_sorted h.sorted, fun q hq => ?_, fun q hq => ?_, fun q hq => ?_, fun q hq x hx => ?_, Nat.le_trans (List.length_filterMap_le _ _) h.len⟩
  all_goals obtain ⟨p, hp, h1, h2⟩ := cutSl_mem hq
  · rw [h1]
    exact h.made p hp
  · rcases h2 with h2 | h2
    · rw [h2]; exact h.ne p hp
    · obtain ⟨h3, h4⟩ := restOf_some h2
      rw [h4]
      intro e
      have := congrArg List.length e
      rw [List.length_drop, List.length_nil] at this
      omega
  · rcases h2 with h2 | h2
    · rw [h2]; exact h.rise p hp
    · rw [(restOf_some h2).2]
      exact List.Pairwise.sublist (List.drop_sublist _ _) (h.rise p hp)
  · rcases h2 with h2 | h2
    · rw [h2] at hx; exact h.times p hp x hx
    · rw [(restOf_some h2).2] at hx
      exact h.times p hp x (List.mem_of_mem_drop hx)
theorem cnt_app (a b : A) : cnt (a ++ b) = cnt a + cnt b := by
  unfold cnt
  rw [List.map_append, List.sum_append]
theorem cnt_cons (p : List S53 × List S44) (a : A) : cnt (p :: a) = p.2.length + cnt a := by
  unfold cnt
  rw [List.map_cons, List.sum_cons]
theorem cnt_rest (low : Int) (p : List S53 × List S44) : cnt (restOf low p).toList = p.2.length - pos p.2 low := by
  unfold restOf
  split
  · rename_i h
    rw [h]
    simp [cnt]
  · simp [cnt]
theorem cnt_gone (low : Int) (p : List S53 × List S44) : cnt (goneOf low p).toList = pos p.2 low := by
  have := pos_le p.2 low
  unfold goneOf
  split
  · rename_i h
    rw [h]
    simp [cnt]
  · simp [cnt]
    omega
theorem cnt_cut (low : Int) : ∀ L : A, cnt (cutS low L) + cnt (cutG low L) = cnt L
  | [] => rfl
  | p :: L => by
    have h := cnt_cut low L
    have e1 : cutS low (p :: L) = (restOf low p).toList ++ cutS low L := by
      unfold cutS
      rw [List.filterMap_cons]
      cases restOf low p <;> rfl
    have e2 : cutG low (p :: L) = (goneOf low p).toList ++ cutG low L := by
      unfold cutG
      rw [List.filterMap_cons]
      cases goneOf low p <;> rfl
    have := pos_le p.2 low
    rw [e1, e2, cnt_app, cnt_app, cnt_rest, cnt_gone, cnt_cons]
    omega
theorem setA_mid {m : List S53} {xs : List S44} : ∀ {a b : A}, (∀ q ∈ a, lcl q.1 m < 0) → (∀ q ∈ b, lcl m q.1 < 0) → setA (a ++ b) m xs = a ++ (m, xs) :: b
  | [], [], _, _ => rfl
  | [], q :: b, _, h => by
    have h1 := h q List.mem_cons_self
    have h2 : ¬ lcl q.1 m = 0 := fun e => by
      have := lcl_anti.1 h1
      omega
    show setA (q :: b) m xs = _
    rw [setA, if_neg h2, if_pos h1]
    rfl
  | q :: a, b, h, h' => by
    have h1 := h q List.mem_cons_self
    have h2 : ¬ lcl m q.1 < 0 := fun e => by
      have := lcl_anti.1 e
      omega
    show setA (q :: (a ++ b)) m xs = _
    rw [setA, if_neg (by omega), if_neg h2, setA_mid (fun x hx => h x (List.mem_cons_of_mem _ hx)) h']
    rfl
theorem setA_at {m : List S53} {xs ys : List S44} : ∀ {a b : A}, (∀ q ∈ a, lcl q.1 m < 0) → setA (a ++ (m, ys) :: b) m xs = a ++ (m, xs) :: b
  | [], b, _ => by
    show setA ((m, ys) :: b) m xs = _
    rw [setA, if_pos (lcl_self m)]
    rfl
  | q :: a, b, h => by
    have h1 := h q List.mem_cons_self
    have h2 : ¬ lcl m q.1 < 0 := fun e => by
      have := lcl_anti.1 e
      omega
    show setA (q :: (a ++ (m, ys) :: b)) m xs = _
    rw [setA, if_neg (by omega), if_neg h2, setA_at (fun x hx => h x (List.mem_cons_of_mem _ hx))]
    rfl
theorem cutG_low {low : Int} {L : A} {q : List S53 × List S44} (h : q ∈ cutG low L) : ∀ x ∈ q.2, x.f0 < low := by
  obtain ⟨p, hp, h1⟩ := List.mem_filterMap.1 h
  obtain ⟨h2, h3⟩ := goneOf_some h1
  rw [h3]
  intro x hx
  obtain ⟨i, hi, e⟩ := List.getElem_of_mem hx
  dsimp only at hi
  rw [List.length_take] at hi
  rw [← e]
  dsimp only
  rw [List.getElem_take]
  exact pos_low (by omega) (by omega)
theorem cutS_high {low : Int} {L : A} (ho : Ok L) {q : List S53 × List S44} (h : q ∈ cutS low L) : ∀ x ∈ q.2, ¬ x.f0 < low := by
  obtain ⟨p, hp, h1⟩ := List.mem_filterMap.1 h
  obtain ⟨h2, h3⟩ := restOf_some h1
  rw [h3]
  intro x hx
  obtain ⟨i, hi, e⟩ := List.getElem_of_mem hx
  dsimp only at hi
  rw [List.length_drop] at hi
  rw [← e]
  dsimp only
  rw [List.getElem_drop]
  have := pos_high (ho.rise p hp) (t := low) (k := pos p.2 low + i) (by omega) (by omega)
  omega
end Hd
end
section
namespace Hd
theorem cutSl_hit {low : Int} {left : Lit → Bool} {L : A} {q : List S53 × List S44} (h : q ∈ cutSl low left L) (hl : left (key q.1) = true) : q ∈ L := by
  obtain ⟨p, hp, h1⟩ := List.mem_filterMap.1 h
  split at h1
  · injection h1 with h1
    rw [← h1]; exact hp
  · rename_i h2
    rw [(restOf_some h1).2] at hl
    exact absurd hl h2
/-- One series of those that are still to come, and what its cut leaves. -/
theorem cut_split {low : Int} {left : Lit → Bool} {S M : List Ent} {e : Ent} (hM : abs M = cutSl low left (abs S)) (hs : sorted (abs S)) (hmd : ∀ q ∈ abs S, Hl.made q.1) (he : e ∈ M) (hl : left (key e.ls) = true) :
    (e.ls, e.xs) ∈ abs S ∧ ∃ M1 M2, M = M1 ++ e :: M2 ∧ (restOf low (e.ls, e.xs) = none → abs (M1 ++ M2) = cutSl low (struck left e.ls) (abs S)) ∧
      (∀ xs', restOf low (e.ls, e.xs) = some (e.ls, xs') → setA (abs M) e.ls xs' = cutSl low (struck left e.ls) (abs S)) ∧
      (restOf low (e.ls, e.xs) = some (e.ls, e.xs) → abs M = cutSl low (struck left e.ls) (abs S)) ∧
      ∀ G : List Ent, abs G = cutGl low left (abs S) → (goneOf low (e.ls, e.xs) = none → abs G = cutGl low (struck left e.ls) (abs S)) ∧
        ∀ ys, goneOf low (e.ls, e.xs) = some (e.ls, ys) → setA (abs G) e.ls ys = cutGl low (struck left e.ls) (abs S) ∧ find (abs G) e.ls = none := by
  have hin : (e.ls, e.xs) ∈ abs S := cutSl_hit (by rw [← hM]; exact List.mem_map_of_mem he) hl
  refine ⟨hin, ?_⟩
  obtain ⟨pl, ql, hL⟩ := List.append_of_mem hin
  obtain ⟨h1, h2, h3, h4⟩ := cut_step (low := low) hL hs hmd hl
  have hso : sorted (pl ++ (e.ls, e.xs) :: ql) := by rw [← hL]; exact hs
  obtain ⟨k1, k2⟩ := sorted_mid hso
  have hM' := hM.trans h1
  obtain ⟨M1, M', e1, e2, e3⟩ := List.map_eq_append_iff.1 hM'
  obtain ⟨e', M2, e4, e5, e6⟩ := List.map_eq_cons_iff.1 e3
  have hsm : sorted (abs M) := by rw [hM]; exact cutSl_sorted hs
  have hee : e' = e := Sr.ent_eq hsm e' (by rw [e1, e4]; simp) e he (congrArg Prod.fst e5)
  subst hee
  subst e4
  have c1 : ∀ q ∈ cutSl low left pl, lcl q.1 e'.ls < 0 := fun q hq => by
    obtain ⟨p, hp, h5, _⟩ := cutSl_mem hq
    rw [h5]; exact k1 p hp
  have g1 : ∀ q ∈ cutGl low left pl, lcl q.1 e'.ls < 0 := fun q hq => by
    obtain ⟨p, hp, h5, _⟩ := cutGl_mem hq
    rw [h5]; exact k1 p hp
  have g2 : ∀ q ∈ cutGl low left ql, lcl e'.ls q.1 < 0 := fun q hq => by
    obtain ⟨p, hp, h5, _⟩ := cutGl_mem hq
    rw [h5]; exact k2 p hp
  refine ⟨M1, M2, e1, fun hn => ?_, fun xs' hn => ?_, fun hn => ?_, fun G hG => ⟨fun hn => ?_, fun ys hn => ⟨?_, ?_⟩⟩⟩
  · rw [h2, hn]
    unfold abs
    rw [List.map_append, e2, e6]
    rfl
  · rw [h2, hn, hM', setA_at c1]
    rfl
  · rw [h2, hn]
    exact hM'
  · rw [h4, hn, hG, h3]
    rfl
  · rw [h4, hn, hG, h3, setA_mid g1 g2]
    rfl
  · rw [hG, h3]
    refine find_none.2 (fun q hq => ?_)
    rcases List.mem_append.1 hq with hq | hq
    · exact lcl_ne (g1 q hq)
    · exact Ne.symm (lcl_ne (g2 q hq))
end Hd
end
/-! ### Cut, in memory -/
section
namespace Hd
/-- A series that was cut off: its box, its labels (shared), its samples (shared). -/
structure GE (W : World) (e : Ent) : Prop where
  blk : W.heap[e.g]? = some (.cells #[e.lv, e.sv] 120 (0, 0))
  lab : ∃ A c, e.lv = .slice A e.ls.length c ∧ e.ls.length ≤ c ∧ Kd.F k53 W (fun k => ∃ cs, W.heap[k]? = some (.cells cs 53 (0, 0))) A e.ls.length e.ls ∧ e.ls.length < 1099511627776
  sam : ∃ A c, e.sv = .slice A e.xs.length c ∧ e.xs.length ≤ c ∧ Kd.F k44 W (fun k => ∃ cs, W.heap[k]? = some (.cells cs 44 (0, 0))) A e.xs.length e.xs ∧ e.xs.length < 1099511627776
theorem GE.te {W : World} {e : Ent} (h : GE W e) : Sr.TE W e := by
  obtain ⟨A, c, e1, h1, h2, h3⟩ := h.lab
  obtain ⟨A', c', e1', h1', h2', h3'⟩ := h.sam
  exact ⟨h.blk, ⟨A, c, e1, h1, Kd.F_now h2, h3⟩, ⟨A', c', e1', h1', Kd.F_now h2', h3'⟩⟩
theorem GE.move {W W' : World} {e : Ent} (h : GE W e) (hg : W'.heap[e.g]? = W.heap[e.g]?) (ht : ∀ (k : Nat) (cs : Array Value) (t : TypeId), W.heap[k]? = some (.cells cs t (0, 0)) → t = 53 ∨ t = 44 → W'.heap[k]? = W.heap[k]?) : GE W' e := by
  obtain ⟨A, c, e1, h1, h2, h3⟩ := h.lab
  obtain ⟨A', c', e1', h1', h2', h3'⟩ := h.sam
  refine ⟨hg.trans h.blk, ⟨A, c, e1, h1, Kd.F_mono (Kd.F_step h2 (fun k hk _ => ?_)) (fun k hk => ?_), h3⟩, ⟨A', c', e1', h1', Kd.F_mono (Kd.F_step h2' (fun k hk _ => ?_)) (fun k hk => ?_), h3'⟩⟩
  · obtain ⟨cs, hc⟩ := hk; exact ht k cs 53 hc (.inl rfl)
  · obtain ⟨cs, hc⟩ := hk; exact ⟨cs, (ht k cs 53 hc (.inl rfl)).trans hc⟩
  · obtain ⟨cs, hc⟩ := hk; exact ht k cs 44 hc (.inr rfl)
  · obtain ⟨cs, hc⟩ := hk; exact ⟨cs, (ht k cs 44 hc (.inr rfl)).trans hc⟩
theorem F53_typed {W : World} {base n c : Nat} {A : Option Addr} {xs : List S53} (h : k53.R 53 W base (fun _ => True) (.slice A n c) xs) : Kd.F k53 W (fun k => ∃ cs, W.heap[k]? = some (.cells cs 53 (0, 0))) A xs.length xs := by
  have hn := (Kd.R_reads' h).1
  subst hn
  refine Kd.F_mono (Kd.R_F (Kd.R_bound h)) (fun k hk => ?_)
  obtain ⟨_, _, _, q, hq, cells, hc⟩ := hk
  have hq' : q ∈ [53] := hq
  rw [List.mem_singleton.1 hq'] at hc
  exact ⟨cells, hc⟩
theorem F44_typed {W : World} {base n c : Nat} {A : Option Addr} {xs : List S44} (h : k44.R 44 W base (fun _ => True) (.slice A n c) xs) : Kd.F k44 W (fun k => ∃ cs, W.heap[k]? = some (.cells cs 44 (0, 0))) A xs.length xs := by
  have hn := (Kd.R_reads' h).1
  subst hn
  refine Kd.F_mono (Kd.R_F (Kd.R_bound h)) (fun k hk => ?_)
  obtain ⟨_, _, _, q, hq, cells, hc⟩ := hk
  have hq' : q ∈ [44] := hq
  rw [List.mem_singleton.1 hq'] at hc
  exact ⟨cells, hc⟩
theorem F44_take {W : World} {ok : Nat → Prop} {A : Option Addr} {xs : List S44} {p : Nat} (h : Kd.F k44 W ok A xs.length xs) (hp : p ≤ xs.length) : Kd.F k44 W ok A (xs.take p).length (xs.take p) := Kd.F_imp h (fun _ h' => Kd.C_take h' hp)
theorem map_size {W : World} {b n : Nat} {D : DataW Unit} (h : W.ownsMap Try.prog 9 RP b n D) : W.ownsMap Try.prog 9 RP b (Maps.size D) D := by
  obtain ⟨es, clock, hb, F, hs, rfl⟩ := h
  refine ⟨es, clock, hb, F, ?_, rfl⟩
  rw [Maps.size_eq, (WideShapes.sorted_perm _).length_eq, List.length_map, Array.length_toList]
  exact Nat.le_refl _
theorem MapIs.del {D : DataW Unit} {S S1 S2 : List Ent} {e : Ent} (h : MapIs D S) (hS : S = S1 ++ e :: S2) (hs : sorted (abs S)) (hmd : ∀ x ∈ S, Hl.made x.ls) (ht : Maps.Tidy D) : MapIs (D.del (key e.ls)) (S1 ++ S2) := by
  subst hS
  have hes := esorted_of hs
  obtain ⟨p1, p2, p3⟩ := List.pairwise_append.1 hes
  have hme := hmd e (by simp)
  have hne : ∀ x ∈ S1 ++ S2, key x.ls ≠ key e.ls := fun x hx h2 => by
    have hx' : x ∈ S1 ++ e :: S2 := by rcases List.mem_append.1 hx with hx | hx <;> simp [hx]
    have h3 := key_inj (hmd x hx') hme h2
    rcases List.mem_append.1 hx with hx | hx
    · exact lcl_ne (p3 x hx e List.mem_cons_self) h3
    · exact lcl_ne ((List.pairwise_cons.1 p2).1 x hx) h3.symm
  refine ⟨fun x hx => ?_, ?_, fun kl hkl => ?_⟩
  · have hx' : x ∈ S1 ++ e :: S2 := by rcases List.mem_append.1 hx with hx | hx <;> simp [hx]
    rw [Maps.has_del_other (hne x hx)]
    exact ⟨(h.hit x hx').1, fun z => by rw [Maps.atKey_del_other (hne x hx)]; exact (h.hit x hx').2 z⟩
  · have h1 := Maps.size_del (k := key e.ls) ht
    rw [(h.hit e (by simp)).1, if_pos rfl, h.size] at h1
    simp only [List.length_append, List.length_cons] at h1 ⊢
    omega
  · by_cases hk : kl = key e.ls
    · rw [hk, Maps.has_del_same] at hkl
      cases hkl
    · rw [Maps.has_del_other hk] at hkl
      obtain ⟨x, hx, h2⟩ := h.keys kl hkl
      refine ⟨x, ?_, h2⟩
      rcases List.mem_append.1 hx with hx | hx
      · exact List.mem_append_left _ hx
      · rcases List.mem_cons.1 hx with hx | hx
        · rw [hx] at h2
          exact absurd h2 hk
        · exact List.mem_append_right _ hx
/-- What the head's own blocks are. -/
theorem HR.obj {base hb mb : Nat} {win : Int} {S : List Ent} {W : World} (h : HR base hb mb win S W) {k : Nat} (hk : Own hb mb S k) : (∃ cs t, W.heap[k]? = some (.cells cs t (0, 0))) ∨ ∃ es ck, W.heap[k]? = some (.map es ck) := by
  rcases hk with rfl | rfl | ⟨e, he, hk⟩
  · exact .inl ⟨_, _, h.head⟩
  · obtain ⟨D, ⟨es, ck, hb1, _⟩, _⟩ := h.map
    exact .inr ⟨_, _, hb1⟩
  · have hen := h.ent e he
    rcases hk with rfl | hk | hk
    · exact .inl ⟨_, _, hen.blk⟩
    · obtain ⟨cs, h1⟩ := hen.lv_type hk
      exact .inl ⟨_, _, h1⟩
    · obtain ⟨cs, h1⟩ := hen.sv_type hk
      exact .inl ⟨_, _, h1⟩
/-- A series is taken out. -/
theorem HR.remove {base hb mb : Nat} {win : Int} {S S1 S2 : List Ent} {e : Ent} {W W' : World} (h : HR base hb mb win S W) (hS : S = S1 ++ e :: S2)
    (hmap : ∀ D, W.ownsMap Try.prog 9 RP mb S.length D → ∃ n, W'.ownsMap Try.prog 9 RP mb n (D.del (key e.ls)))
    (hhd : W'.heap[hb]? = some (.cells #[.int .i64 win, .map (some mb), .int .i64 (cnt (abs (S1 ++ S2)) : Nat)] 115 (0, 0)))
    (hk : ∀ k, Own hb mb (S1 ++ S2) k → k ≠ hb → k ≠ mb → W'.heap[k]? = W.heap[k]?) (hok : Ok (abs (S1 ++ S2))) : HR base hb mb win (S1 ++ S2) W' := by
  have hsub : ∀ x ∈ S1 ++ S2, x ∈ S := fun x hx => by rw [hS]; rcases List.mem_append.1 hx with hx | hx <;> simp [hx]
  have hmbt : ∀ (cs : Array Value) (t : TypeId), W.heap[mb]? ≠ some (.cells cs t (0, 0)) := by
    intro cs t h2
    obtain ⟨D, ⟨es, ck, hb1, _⟩, _⟩ := h.map
    rw [hb1] at h2
    cases h2
  refine ⟨h.lo, h.wok, hhd, ?_, fun x hx => ?_, ?_, hok⟩
  · obtain ⟨D, hm2, hD⟩ := h.map
    obtain ⟨n, hn⟩ := hmap D hm2
    have hD' := hD.del hS h.ok.sorted (fun x hx => made_of h hx) (hm2.tidy law9)
    refine ⟨_, ?_, hD'⟩
    rw [← hD'.size]
    exact map_size hn
  · have hxe := h.ent x (hsub x hx)
    refine hxe.move (fun k hkk => hk k (.inr (.inr ⟨x, hx, hkk⟩)) ?_ ?_)
    · rintro rfl
      rcases hkk with h1 | h1 | h1
      · have := hxe.blk
        rw [← h1] at this
        exact absurd (type_ne h.head this) (by decide)
      · obtain ⟨cs, h2⟩ := hxe.lv_type h1
        exact absurd (type_ne h.head h2) (by decide)
      · obtain ⟨cs, h2⟩ := hxe.sv_type h1
        exact absurd (type_ne h.head h2) (by decide)
    · rintro rfl
      rcases hkk with h1 | h1 | h1
      · have := hxe.blk
        rw [← h1] at this
        exact hmbt _ _ this
      · obtain ⟨cs, h2⟩ := hxe.lv_type h1
        exact hmbt _ _ h2
      · obtain ⟨cs, h2⟩ := hxe.sv_type h1
        exact hmbt _ _ h2
  · have h2 := h.apart
    rw [hS] at h2
    exact h2.sublist (List.Sublist.append_left (List.sublist_cons_self e S2) S1)
end Hd
end
section
namespace Hd
theorem ranges_move {w w' : World} {b r n : Nat} {D : DataW Unit} {left : Lit → Bool} {cnt : Nat} (h : w.ranges Try.prog 9 RP b r n D left cnt) (hb : w'.heap[b]? = w.heap[b]?) (hr : w'.heap[r]? = w.heap[r]?) : w'.ranges Try.prog 9 RP b r n D left cnt := by
  obtain ⟨es, clock, since, seen, c0, h1, F, h2, h3, h4, rest⟩ := h
  exact ⟨es, clock, since, seen, c0, hb.trans h1, F, h2, h3, hr.trans h4, rest⟩
theorem owns_move {w w' : World} {b n : Nat} {D : DataW Unit} (h : w.ownsMap Try.prog 9 RP b n D) (hb : w'.heap[b]? = w.heap[b]?) : w'.ownsMap Try.prog 9 RP b n D := by
  obtain ⟨es, clock, h1, r⟩ := h
  exact ⟨es, clock, hb.trans h1, r⟩
theorem owns_obj {w : World} {b n : Nat} {D : DataW Unit} (h : w.ownsMap Try.prog 9 RP b n D) (cs : Array Value) (t : TypeId) : w.heap[b]? ≠ some (.cells cs t (0, 0)) := fun h2 => by
  obtain ⟨es, clock, h1, r⟩ := h
  rw [h1] at h2
  cases h2
/-- Where Cut stands while the series of 'left' are still to come: M is what the head has now, G what is gone. -/
structure CutI (W : World) (base hb mb gb : Nat) (win low : Int) (S : List Ent) (left : Lit → Bool) (M G : List Ent) (wr : World) : Prop where
  hr : HR base hb mb win M wr
  am : abs M = cutSl low left (abs S)
  mg : ∃ DG, wr.ownsMap Try.prog 9 RP gb G.length DG ∧ MapIs DG G
  ge : ∀ e ∈ G, GE wr e ∧ W.heap.size ≤ e.g
  gm : ∀ e ∈ M, e.g < W.heap.size
  ag : abs G = cutGl low left (abs S)
  fr : Fr (Own hb mb S) (Own hb mb M) W wr
  cm : cnt (abs M) < 1099511627776
  gl : W.heap.size ≤ gb
  ng : mb ≠ gb
/-- The step of the loop writes the loop's own block alone. -/
theorem CutI.next {W wr w1 : World} {base hb mb gb r n cnt : Nat} {win low : Int} {S M G : List Ent} {left left' : Lit → Bool} {D : DataW Unit} (h : CutI W base hb mb gb win low S left M G wr) (hrg : wr.ranges Try.prog 9 RP mb r n D left' cnt) (hg1 : wr.grownBy w1 (some r)) (hr : W.heap.size ≤ r) : CutI W base hb mb gb win low S left M G w1 := by
  have hrobj : ∀ cs t, wr.heap[r]? ≠ some (.cells cs t (0, 0)) := fun cs t h2 => by
    obtain ⟨es, clock, since, seen, c0, _, _, _, _, hrr, _⟩ := hrg
    rw [hrr] at h2
    cases h2
  have hrmap : ∀ es ck, wr.heap[r]? ≠ some (.map es ck) := fun es ck h2 => by
    obtain ⟨es', clock, since, seen, c0, _, _, _, _, hrr, _⟩ := hrg
    rw [hrr] at h2
    cases h2
  have hrn : ∀ k, Own hb mb M k → k ≠ r := fun k hk h2 => by
    subst h2
    rcases h.hr.obj hk with ⟨cs, t, h3⟩ | ⟨es, ck, h3⟩
    · exact hrobj _ _ h3
    · exact hrmap _ _ h3
  obtain ⟨DG, hm, hD⟩ := h.mg
  refine ⟨h.hr.move (fun k hk => hg1.block k (h.hr.lt k hk).2 (fun e => hrn k hk (by injection e))), h.am, ⟨DG, owns_move hm (hg1.block gb hm.lt (fun e => ?_)), hD⟩, fun x hx => ⟨((h.ge x hx).1).move (hg1.block _ (blk_lt ((h.ge x hx).1).blk) (fun e => hrobj _ _ (by rw [← show x.g = r by injection e]; exact ((h.ge x hx).1).blk))) (fun k cs t h2 _ => hg1.block k (blk_lt h2) (fun e => hrobj _ _ (by rw [← show k = r by injection e]; exact h2))), (h.ge x hx).2⟩, h.gm, h.ag, ?_, h.cm, h.gl, h.ng⟩
  · obtain ⟨es, ck, h1, _⟩ := hm
    exact hrmap _ _ (by rw [← show gb = r by injection e]; exact h1)
  · exact ⟨hg1.os.trans h.fr.os, hg1.tape.trans h.fr.tape, hg1.output.trans h.fr.output, Nat.le_trans h.fr.size hg1.size, fun k hk hn => (hg1.block k (Nat.lt_of_lt_of_le hk h.fr.size) (fun e => by injection e; omega)).trans (h.fr.blk k hk hn), h.fr.new⟩
/-- Nothing of the series is below the time. -/
theorem CutI.skip {W w1 : World} {base hb mb gb : Nat} {win low : Int} {S M G : List Ent} {left : Lit → Bool} {e : Ent} (h : CutI W base hb mb gb win low S left M G w1) (hS : Ok (abs S)) (he : e ∈ M) (hl : left (key e.ls) = true) (hp : pos e.xs low = 0) : CutI W base hb mb gb win low S (struck left e.ls) M G w1 := by
  obtain ⟨hin, M1, M2, _, _, _, hc, hG⟩ := cut_split h.am hS.sorted hS.made he hl
  have hne : e.xs ≠ [] := ne_of h.hr he
  have hl0 := List.length_pos_iff.2 hne
  have hr0 : restOf low (e.ls, e.xs) = some (e.ls, e.xs) := by
    unfold restOf
    dsimp only
    rw [hp, if_neg (by omega), List.drop_zero]
  have hg0 : goneOf low (e.ls, e.xs) = none := by
    unfold goneOf
    dsimp only
    rw [hp, if_pos rfl]
  exact ⟨h.hr, hc hr0, h.mg, h.ge, h.gm, (hG G h.ag).1 hg0, h.fr, h.cm, h.gl, h.ng⟩
/-- What a round that cuts has done to the memory, up to the deletion: p samples are gone; gx: the new box; v5: what stays. -/
structure CutR (w1 W7 : World) (hb mb gb gx p m : Nat) (win : Int) (base : Nat) (M G : List Ent) (e : Ent) (ad : Addr) (v5 : Value) : Prop where
  ebk : W7.heap[e.g]? = some (.cells #[e.lv, v5] 120 (0, 0))
  hhd : W7.heap[hb]? = some (.cells #[.int .i64 win, .map (some mb), .int .i64 ((cnt (abs M) - p : Nat) : Int)] 115 (0, 0))
  gbk : W7.heap[gx]? = some (.cells #[e.lv, .slice (some ad) p p] 120 (0, 0))
  row : k44.R 44 W7 w1.heap.size (fun _ => True) v5 (e.xs.drop p)
  gxn : w1.heap.size ≤ gx
  gmp : ∀ DG, w1.ownsMap Try.prog 9 RP gb G.length DG → W7.ownsMap Try.prog 9 RP gb (G.length + 1) (DG.put (key e.ls) (.lit (.int .i64 gx)))
  old : ∀ k, k < w1.heap.size → k ≠ e.g → k ≠ hb → k ≠ gb → W7.heap[k]? = w1.heap[k]?
  os : W7.os = w1.os
  tape : W7.tape = w1.tape
  output : W7.output = w1.output
  size : w1.heap.size ≤ W7.heap.size
  sv : ∃ c, e.sv = .slice (some ad) e.xs.length c ∧ e.xs.length ≤ c

theorem CutI.apart {W w1 : World} {base hb mb gb : Nat} {win low : Int} {S M G : List Ent} {left : Lit → Bool} (h : CutI W base hb mb gb win low S left M G w1) {k : Nat} (hk : Own hb mb M k) : k ≠ gb := by
  obtain ⟨DG, hm, _⟩ := h.mg
  rintro rfl
  rcases hk with h1 | h1 | h1
  · subst h1
    exact owns_obj hm _ _ h.hr.head
  · exact h.ng h1.symm
  · rcases h.hr.obj (.inr (.inr h1)) with ⟨cs, t, h3⟩ | ⟨es, ck, h3⟩
    · exact owns_obj hm _ _ h3
    · obtain ⟨e, he, h1⟩ := h1
      have hen := h.hr.ent e he
      rcases h1 with rfl | h1 | h1
      · exact owns_obj hm _ _ hen.blk
      · obtain ⟨cs, h4⟩ := hen.lv_type h1
        exact owns_obj hm _ _ h4
      · obtain ⟨cs, h4⟩ := hen.sv_type h1
        exact owns_obj hm _ _ h4
/-- The gone series, one more. -/
theorem CutR.gone {W w1 W7 : World} {base hb mb gb gx p m : Nat} {win low : Int} {S M G : List Ent} {left : Lit → Bool} {e : Ent} {ad : Addr} {v5 : Value} (h : CutI W base hb mb gb win low S left M G w1) (hR : CutR w1 W7 hb mb gb gx p m win base M G e ad v5) (hS : Ok (abs S)) (he : e ∈ M) (hl : left (key e.ls) = true)
    (hp : p = pos e.xs low) (hp0 : 0 < p) : ∃ G', (∃ DG, W7.ownsMap Try.prog 9 RP gb G'.length DG ∧ MapIs DG G') ∧ (∀ x ∈ G', GE W7 x ∧ W.heap.size ≤ x.g) ∧ abs G' = cutGl low (struck left e.ls) (abs S) := by
  obtain ⟨hin, M1, M2, _, _, _, _, hG⟩ := cut_split h.am hS.sorted hS.made he hl
  have hg1 : goneOf low (e.ls, e.xs) = some (e.ls, e.xs.take p) := by
    unfold goneOf
    dsimp only
    rw [← hp, if_neg (by omega)]
  obtain ⟨hc, hf⟩ := (hG G h.ag).2 _ hg1
  obtain ⟨DG, hm, hD⟩ := h.mg
  have hpl : p ≤ e.xs.length := by rw [hp]; exact pos_le _ _
  have hen := h.hr.ent e he
  have hmade : Hl.made e.ls := made_of h.hr he
  have hold : ∀ (k : Nat) (cs : Array Value) (t : TypeId), w1.heap[k]? = some (.cells cs t (0, 0)) → t = 53 ∨ t = 44 → W7.heap[k]? = w1.heap[k]? := fun k cs t h2 ht => by
    refine hR.old k (blk_lt h2) ?_ ?_ ?_
    · rintro rfl
      rcases ht with rfl | rfl <;> exact absurd (type_ne hen.blk h2) (by decide)
    · rintro rfl
      rcases ht with rfl | rfl <;> exact absurd (type_ne h.hr.head h2) (by decide)
    · rintro rfl
      exact owns_obj hm _ _ h2
  have hmds : ∀ x ∈ G, Hl.made x.ls := fun x hx => by
    have h1 : (x.ls, x.xs) ∈ abs G := List.mem_map_of_mem hx
    rw [h.ag] at h1
    obtain ⟨q, hq, h2, _⟩ := cutGl_mem h1
    rw [show x.ls = q.1 from h2]
    exact hS.made q hq
  have hsg : sorted (abs G) := by rw [h.ag]; exact cutGl_sorted hS.sorted
  refine ⟨setE G ⟨e.ls, e.xs.take p, gx, e.lv, .slice (some ad) p p⟩, ⟨DG.put (key e.ls) (.lit (.int .i64 gx)), ?_, ?_⟩, fun x hx => ?_, ?_⟩
  · rw [setE_len hsg, hf, if_pos rfl]
    exact hR.gmp DG hm
  · exact hD.put hsg hmds (hm.tidy law9) (e := ⟨e.ls, e.xs.take p, gx, e.lv, .slice (some ad) p p⟩) hmade hf
  · rcases setE_mem (esorted_of hsg) hx with rfl | ⟨hx, _⟩
    · refine ⟨⟨hR.gbk, ?_, ?_⟩, Nat.le_trans h.fr.size hR.gxn⟩
      · obtain ⟨A, c, ev⟩ := Kd.R_slice hen.lab
        have hlab := hen.lab
        rw [ev] at hlab
        refine ⟨A, c, ev, (Kd.R_reads' hlab).2.1, Kd.F_mono (Kd.F_step (F53_typed hlab) (fun k hk _ => ?_)) (fun k hk => ?_), by have := made_len hmade; dsimp only; omega⟩
        · obtain ⟨cs, h1⟩ := hk
          exact hold k cs 53 h1 (.inl rfl)
        · obtain ⟨cs, h1⟩ := hk
          exact ⟨cs, (hold k cs 53 h1 (.inl rfl)).trans h1⟩
      · obtain ⟨c, ev, hc⟩ := hR.sv
        have hsam := hen.sam
        rw [ev] at hsam
        have hlt : (e.xs.take p).length = p := by rw [List.length_take]; omega
        have hxl := Nat.lt_of_le_of_lt (xs_le he) h.cm
        refine ⟨some ad, p, by dsimp only; rw [hlt], by dsimp only; omega, Kd.F_mono (Kd.F_step (F44_take (F44_typed hsam) hpl) (fun k hk _ => ?_)) (fun k hk => ?_), ?_⟩
        · obtain ⟨cs, h1⟩ := hk
          exact hold k cs 44 h1 (.inr rfl)
        · obtain ⟨cs, h1⟩ := hk
          exact ⟨cs, (hold k cs 44 h1 (.inr rfl)).trans h1⟩
        · dsimp only
          omega
    · obtain ⟨g1, g2⟩ := h.ge x hx
      refine ⟨g1.move (hR.old x.g (blk_lt g1.blk) ?_ ?_ ?_) hold, g2⟩
      · have := h.gm e he
        omega
      · intro h2
        have h3 := g1.blk
        rw [h2] at h3
        exact absurd (type_ne h.hr.head h3) (by decide)
      · intro h2
        have h3 := g1.blk
        rw [h2] at h3
        exact owns_obj hm _ _ h3
  · rw [abs_setE]
    exact hc
theorem cnt_keep {M : List Ent} {e : Ent} (hs : sorted (abs M)) (he : e ∈ M) {p : Nat} (hp : p ≤ e.xs.length) : cnt (setA (abs M) e.ls (e.xs.drop p)) = cnt (abs M) - p := by
  have h1 := cnt_setA (L := abs M) (m := e.ls) (xs := e.xs.drop p) hs
  rw [find_ent_some hs he] at h1
  simp only [Option.getD_some, List.length_drop] at h1
  have := xs_le he
  omega
/-- Something of the series stays. -/
theorem CutI.keep {W w1 W7 : World} {base hb mb gb gx p m : Nat} {win low : Int} {S M G : List Ent} {left : Lit → Bool} {e : Ent} {ad : Addr} {v5 : Value} (h : CutI W base hb mb gb win low S left M G w1) (hR : CutR w1 W7 hb mb gb gx p m win base M G e ad v5) (hS : Ok (abs S)) (he : e ∈ M) (hl : left (key e.ls) = true)
    (hp : p = pos e.xs low) (hp0 : 0 < p) (hpl : p < e.xs.length) : ∃ M' G', CutI W base hb mb gb win low S (struck left e.ls) M' G' W7 := by
  obtain ⟨G', hG1, hG2, hG3⟩ := CutR.gone h hR hS he hl hp hp0
  obtain ⟨hin, M1, M2, _, _, hkeep, _, _⟩ := cut_split h.am hS.sorted hS.made he hl
  have hr1 : restOf low (e.ls, e.xs) = some (e.ls, e.xs.drop p) := by
    unfold restOf
    dsimp only
    rw [← hp, if_neg (by omega)]
  have ha := hkeep _ hr1
  have hcn := cnt_keep h.hr.ok.sorted he (p := p) (by omega)
  have hbase : base ≤ w1.heap.size := by have := h.hr.lt hb (.inl rfl); omega
  have hv5 : ∀ k, v5.ownBlock = some k → w1.heap.size ≤ k := fun k hk => Kd.R_base hR.row k hk
  have hv5' : v5.ownBlock = e.sv.ownBlock ∨ ∃ b, v5.ownBlock = some b ∧ w1.heap.size ≤ b := by
    have hpos : 0 < (e.xs.drop p).length := by rw [List.length_drop]; omega
    obtain ⟨g, c, ev, h1, _, _⟩ := Kd.R_form hR.row hpos
    rw [ev]
    exact .inr ⟨g, rfl, h1⟩
  have hn := h.hr.update he (W' := W7) (xs' := e.xs.drop p) (sv' := v5) hR.ebk (Kd.R_lower hR.row hbase) hv5' (by rw [hcn]; exact hR.hhd)
    (fun k hk h1 h2 _ => hR.old k (h.hr.lt k hk).2 h1 h2 (h.apart hk)) (by rw [ha]; exact cutSl_ok hS)
  refine ⟨_, G', hn, by rw [abs_setE]; exact ha, hG1, hG2, fun x hx => ?_, hG3, ?_, ?_, h.gl, h.ng⟩
  · rcases setE_mem (esorted_of h.hr.ok.sorted) hx with rfl | ⟨hx, _⟩
    · exact h.gm e he
    · exact h.gm x hx
  · refine ⟨hR.os.trans h.fr.os, hR.tape.trans h.fr.tape, hR.output.trans h.fr.output, Nat.le_trans h.fr.size hR.size, fun k hk hno => ?_, fun k hk => ?_⟩
    · refine (hR.old k (Nat.lt_of_lt_of_le hk h.fr.size) ?_ (fun e1 => hno (.inl e1)) (by have := h.gl; omega)).trans (h.fr.blk k hk hno)
      rintro rfl
      rcases h.fr.new _ (.inr (.inr ⟨e, he, .inl rfl⟩)) with h1 | h1
      · exact hno h1
      · omega
    · rcases hk with h1 | h1 | ⟨x, hx, h1⟩
      · exact .inl (.inl h1)
      · exact .inl (.inr (.inl h1))
      · rcases setE_mem (esorted_of h.hr.ok.sorted) hx with rfl | ⟨hx, _⟩
        · rcases h1 with h1 | h1 | h1
          · exact h.fr.new k (.inr (.inr ⟨e, he, .inl h1⟩))
          · exact h.fr.new k (.inr (.inr ⟨e, he, .inr (.inl h1)⟩))
          · exact .inr (Nat.le_trans h.fr.size (hv5 k h1))
        · exact h.fr.new k (.inr (.inr ⟨x, hx, h1⟩))
  · rw [abs_setE]
    show cnt (setA (abs M) e.ls (e.xs.drop p)) < _
    rw [hcn]
    have := h.cm
    omega
/-- Nothing of the series stays. -/
theorem CutI.all {W w1 W7 W8 : World} {base hb mb gb gx p m : Nat} {win low : Int} {S M G : List Ent} {left : Lit → Bool} {e : Ent} {ad : Addr} {v5 : Value} (h : CutI W base hb mb gb win low S left M G w1) (hR : CutR w1 W7 hb mb gb gx p m win base M G e ad v5) (hS : Ok (abs S)) (he : e ∈ M) (hl : left (key e.ls) = true)
    (hp : p = pos e.xs low) (hp0 : 0 < p) (hpl : p = e.xs.length) (hg8 : W7.grownBy W8 (some mb)) (hm8 : ∀ D, w1.ownsMap Try.prog 9 RP mb M.length D → ∃ n, W8.ownsMap Try.prog 9 RP mb n (D.del (key e.ls))) : ∃ M' G', CutI W base hb mb gb win low S (struck left e.ls) M' G' W8 := by
  obtain ⟨G', ⟨DG, hG1, hG1'⟩, hG2, hG3⟩ := CutR.gone h hR hS he hl hp hp0
  obtain ⟨hin, M1, M2, hM, hgone, _, _, _⟩ := cut_split h.am hS.sorted hS.made he hl
  have hr1 : restOf low (e.ls, e.xs) = none := by
    unfold restOf
    dsimp only
    rw [← hp, if_pos hpl]
  have ha := hgone hr1
  have hcn : cnt (abs (M1 ++ M2)) = cnt (abs M) - p := by
    rw [hM]
    unfold abs
    rw [List.map_append, List.map_append, List.map_cons, cnt_app, cnt_app, cnt_cons]
    dsimp only
    omega
  have hmbo : ∀ (cs : Array Value) (t : TypeId), w1.heap[mb]? ≠ some (.cells cs t (0, 0)) := by
    obtain ⟨D, hD, _⟩ := h.hr.map
    exact owns_obj hD
  have hmlt : mb < w1.heap.size := (h.hr.lt mb (.inr (.inl rfl))).2
  have hhm : hb ≠ mb := fun e1 => hmbo _ _ (by rw [← e1]; exact h.hr.head)
  have hem : e.g ≠ mb := fun e1 => hmbo _ _ (by rw [← e1]; exact (h.hr.ent e he).blk)
  have hmb7 : W7.heap[mb]? = w1.heap[mb]? := hR.old mb hmlt (Ne.symm hem) (Ne.symm hhm) h.ng
  have hmbo7 : ∀ (cs : Array Value) (t : TypeId), W7.heap[mb]? ≠ some (.cells cs t (0, 0)) := fun cs t h2 => hmbo cs t (hmb7.symm.trans h2)
  have h8 : ∀ k, k < W7.heap.size → k ≠ mb → W8.heap[k]? = W7.heap[k]? := fun k hk hne => hg8.block k hk (fun e1 => hne (by injection e1))
  have h8c : ∀ (k : Nat) (cs : Array Value) (t : TypeId), W7.heap[k]? = some (.cells cs t (0, 0)) → W8.heap[k]? = W7.heap[k]? := fun k cs t h2 => h8 k (blk_lt h2) (fun e1 => hmbo7 _ _ (by rw [← e1]; exact h2))
  have hsub : ∀ x ∈ M1 ++ M2, x ∈ M := fun x hx => by rw [hM]; rcases List.mem_append.1 hx with hx | hx <;> simp [hx]
  have hex : ∀ x ∈ M1 ++ M2, x.g ≠ e.g := fun x hx h2 => by
    have hap := h.hr.apart
    rw [hM] at hap
    obtain ⟨p1, p2, p3⟩ := List.pairwise_append.1 hap
    rcases List.mem_append.1 hx with hx | hx
    · exact (p3 x hx e List.mem_cons_self).1 h2
    · exact ((List.pairwise_cons.1 p2).1 x hx).1 h2.symm
  have hn := h.hr.remove hM (W' := W8) hm8 ((h8c hb _ _ hR.hhd).trans (by rw [hcn]; exact hR.hhd)) (fun k hk h1 h2 => by
      have hkM : Own hb mb M k := by
        rcases hk with hk | hk | ⟨x, hx, hk⟩
        · exact .inl hk
        · exact .inr (.inl hk)
        · exact .inr (.inr ⟨x, hsub x hx, hk⟩)
      have hlt := (h.hr.lt k hkM).2
      refine (h8 k (Nat.lt_of_lt_of_le hlt hR.size) h2).trans (hR.old k hlt ?_ h1 (h.apart hkM))
      rintro rfl
      rcases hk with hk | hk | ⟨x, hx, hk⟩
      · exact h1 hk
      · exact h2 hk
      · have hxe := h.hr.ent x (hsub x hx)
        rcases hk with hk | hk | hk
        · exact hex x hx hk.symm
        · obtain ⟨cs, h3⟩ := hxe.lv_type hk
          exact absurd (type_ne (h.hr.ent e he).blk h3) (by decide)
        · obtain ⟨cs, h3⟩ := hxe.sv_type hk
          exact absurd (type_ne (h.hr.ent e he).blk h3) (by decide)) (by rw [ha]; exact cutSl_ok hS)
  refine ⟨M1 ++ M2, G', hn, ha, ⟨DG, owns_move hG1 (h8 gb hG1.lt (Ne.symm h.ng)), hG1'⟩, fun x hx => ⟨(hG2 x hx).1.move (h8c _ _ _ (hG2 x hx).1.blk) (fun k cs t h2 _ => h8c k cs t h2), (hG2 x hx).2⟩, fun x hx => h.gm x (hsub x hx), hG3, ?_, ?_, h.gl, h.ng⟩
  · refine ⟨hg8.os.trans (hR.os.trans h.fr.os), hg8.tape.trans (hR.tape.trans h.fr.tape), hg8.output.trans (hR.output.trans h.fr.output), Nat.le_trans h.fr.size (Nat.le_trans hR.size hg8.size), fun k hk hno => ?_, fun k hk => ?_⟩
    · have hk1 := Nat.lt_of_lt_of_le hk h.fr.size
      refine (h8 k (Nat.lt_of_lt_of_le hk1 hR.size) (fun e1 => hno (.inr (.inl e1)))).trans ((hR.old k hk1 ?_ (fun e1 => hno (.inl e1)) (by have := h.gl; omega)).trans (h.fr.blk k hk hno))
      rintro rfl
      rcases h.fr.new _ (.inr (.inr ⟨e, he, .inl rfl⟩)) with h1 | h1
      · exact hno h1
      · omega
    · refine h.fr.new k ?_
      rcases hk with hk | hk | ⟨x, hx, hk⟩
      · exact .inl hk
      · exact .inr (.inl hk)
      · exact .inr (.inr ⟨x, hsub x hx, hk⟩)
  · rw [hcn]
    have := h.cm
    omega
end Hd
end
end Go.Proofs.Ytcgocdhffcnleaa.PHead

/- A part of the proofs about the head: see the theorems' own lines. -/
namespace Go.Proofs.Ytcgocdhffcnleaa.PHead
open Go Go.RowKit Go.Proofs.YtcgocdhffcnleaaW.PrintWords Go.Proofs.YtcgocdhffcnleaaW.PrintLast Go.Proofs.YtcgocdhffcnleaaW.PrintMore Go.Proofs.Ytcgocdhffcnleaa.XB Go.Proofs.Ytcgocdhffcnleaa.PHeadPlays Go.Proofs.Ytcgocdhffcnleaa.XH
set_option linter.unusedVariables false
set_option linter.unusedSimpArgs false
/-! ### Cut, walked -/
section
set_option maxHeartbeats 8000000 in
set_option maxRecDepth 100000 in
theorem head_Cut.calls {base hb mb : Nat} {win : Int} {S : List Hd.Ent} {W : World} (h : Hd.HR base hb mb win S W) (hct : Hd.cnt (Hd.abs S) < 1099511627776) (low : Int) :
    Calls Try.prog 33 #[.pointer (some ⟨hb, 0, none⟩), .int .i64 low] W fun e w' => ∃ (A : Option Addr) (c : Nat) (S' : List Hd.Ent), e = .returned (.slice A (Hd.cutG low (Hd.abs S)).length c) ∧ Kd.R k68 68 w' W.heap.size (fun _ => True) (.slice A (Hd.cutG low (Hd.abs S)).length c) (Hd.out (Hd.cutG low (Hd.abs S))) ∧
      Hd.HR base hb mb win S' w' ∧ Hd.abs S' = Hd.cutS low (Hd.abs S) ∧ Hd.Fr (Hd.Own hb mb S) (Hd.Own hb mb S') W w' := by
  have HH := Aside0.mk h
  have HCT := Aside0.mk hct
  clear h hct
  have hmm := @run_makeMap Try.prog
  go_enter Try.func33, Try.ntmps33
  go_upto_region 2 with fail
  refine cwp_world ?_
  intro W0 hW0
  obtain ⟨gb, hgb⟩ : ∃ g, g = W.heap.size := ⟨_, rfl⟩
  have hb0 : Below W.heap.size W W0 := by rw [hW0]; exact below_alloc (Below.refl _ _) _
  have HB0 := Aside0.mk hb0
  have HM0 := Aside0.mk (show W0.ownsMap Try.prog 9 Hd.RP gb 0 (.map []) by rw [hW0, hgb]; exact World.ownsMap_made W Try.prog 9 Hd.RP)
  have HGB := Aside0.mk hgb
  have HH0 := Aside0.mk (HH.out.below hb0)
  have z1 := (blk_cell HH0.out.head 1).trans (show (#[.int .i64 win, .map (some mb), .int .i64 (Hd.cnt (Hd.abs S) : Nat)] : Array Value)[1]? = some (.map (some mb)) from rfl)
  rw [← hgb]
  clear hW0 hgb hb0 hmm
  obtain ⟨D0, hown, hD0⟩ := HH0.out.map
  have HD0 := Aside0.mk hD0
  clear hD0
  go_wp2_with (first | (at_range; refine wpList_range_own _ rfl _ 113 rfl 9 117 Hd.law9 Try.underlying113 Hd.RP mb _ _ rfl hown ?_; intro w0 hrg0 hg0 hs0) | go_in)
  go_frame
  obtain ⟨r, hr⟩ : ∃ r, r = W0.heap.size := ⟨_, rfl⟩
  have HR := Aside0.mk (show gb < r from by rw [hr]; exact HM0.out.lt)
  have HMR := Aside0.mk (show mb < r from by rw [hr]; exact (HH0.out.lt mb (.inr (.inl rfl))).2)
  rw [← hr] at hrg0 ⊢
  have hb00 : Below W0.heap.size W0 w0 := ⟨hg0.os, hg0.tape, hg0.output, hg0.size, fun i hi => hg0.block i hi (by simp)⟩
  have HM00 := Aside0.mk (HM0.out.kept hg0 (by simp))
  have HH00 := Aside0.mk (HH0.out.below hb00)
  have HB00 := Aside0.mk (below_step HB0.out hb00)
  have HSZ := Aside0.mk (show W.heap.size ≤ r from by rw [hr]; exact HB0.out.size)
  clear hr hown hg0 hs0 hb00 HM0 z1
  go_loopg [] S.length (fun kx wr => ∃ (left : Lit → Bool) (cnt : Nat) (M G : List Hd.Ent) (DM : DataW Unit), wr.ranges Try.prog 9 Hd.RP mb r S.length DM left cnt ∧ cnt ≤ kx ∧ Aside0 (Hd.CutI W base hb mb gb win low S left M G wr))
  case atStart =>
    have hall : ∀ p ∈ Hd.abs S, Maps.has D0 (Hd.key p.1) = true := fun p hp => by
      obtain ⟨e, he, rfl⟩ := List.mem_map.1 hp
      exact (HD0.out.hit e he).1
    exact ⟨_, _, S, [], D0, hrg0, by rw [HD0.out.size]; exact Nat.le_refl _, ⟨⟨HH00.out, (Hd.cutSl_start hall).symm, ⟨_, HM00.out, ⟨fun e he => (by cases he), rfl, fun kl hk => (by cases hk)⟩⟩, fun e he => (by cases he), fun e he => (HH.out.lt _ (.inr (.inr ⟨e, he, .inl rfl⟩))).2, (Hd.cutGl_start hall).symm, Hd.Fr.of_below HB00.out, HCT.out, by rw [HGB.out]; exact Nat.le_refl _, fun e => by have := (HH.out.lt mb (.inr (.inl rfl))).2; have := HGB.out; omega⟩⟩⟩
  case round =>
    clear hrg0 HM00 HH00 HB00
    obtain ⟨left, cnt, M, G, DM, hrg, hcx, HI⟩ := hrel
    go_wp2_with (first
      | (at_next; refine wpList_next_ranges _ rfl _ rfl 9 Hd.law9 Hd.RP id id (fun key _ _ => ⟨key, rfl⟩) (fun v _ _ => ⟨v, rfl⟩) mb r S.length _ _ _ rfl hrg ?_ ?_)
      | go_in)
    · intro hc0 hl0
      have e1 := HI.out.am.trans (Hd.cutSl_end _ hl0)
      have e2 := HI.out.ag.trans (Hd.cutGl_end _ hl0)
      have hsg : Hd.sorted (Hd.abs G) := by rw [HI.out.ag]; exact Hd.cutGl_sorted HH.out.ok.sorted
      have hmg : ∀ e ∈ G, Hl.made e.ls := fun e he => by
        have h1 : (e.ls, e.xs) ∈ Hd.abs G := List.mem_map_of_mem he
        rw [HI.out.ag] at h1
        obtain ⟨p, hp, h2, _⟩ := Hd.cutGl_mem h1
        rw [show e.ls = p.1 from h2]
        exact HH.out.ok.made p hp
      have hlg : G.length ≤ 1000 := by
        have h1 : (Hd.abs G).length = G.length := by unfold Hd.abs; rw [List.length_map]
        have h2 := HH.out.ok.len
        rw [← h1, HI.out.ag]
        exact Nat.le_trans (List.length_filterMap_le _ _) h2
      obtain ⟨DG, hmg1, hmg2⟩ := HI.out.mg
      have HT := Aside0.mk (Sr.told gb G DG wr hmg1 hmg2 (fun e he => (HI.out.ge e he).1.te) hsg hmg hlg)
      have hgl : G.length = (Hd.cutG low (Hd.abs S)).length := by rw [← e2]; unfold Hd.abs; rw [List.length_map]
      rw [Hd.out_abs, e2, hgl] at HT
      have HE1 := Aside0.mk e1
      clear e1 e2 hsg hmg hlg hgl hrg hmg1 hmg2
      go_wp2_with (go_at_call 78; (with_reducible refine HT.out.mono ?_); rintro e w' ⟨A, c, rfl, hR, hb'⟩)
      go_ret
      exact ⟨A, c, M, rfl, Kd.R_lower hR HI.out.fr.size, HI.out.hr.below hb', HE1.out, HI.out.fr.trans (Hd.Fr.of_below hb')⟩
    · intro x c kl yd yp w1 cnt1 hkey hlx hv hat hrg1 hlt hg1 hs1 hen
      obtain ⟨D', hmo, hmi⟩ := HI.out.hr.map
      have hDD := Hd.map_uniq hmo hrg.owns
      subst hDD
      obtain ⟨e, he, hkl, hc⟩ := Sr.entry hmi (y := (yd, yp)) hv hat
      subst hkl
      subst hc
      have HI1 := Aside0.mk (HI.out.next hrg hg1 HSZ.out)
      have hxne : e.xs ≠ [] := Hd.ne_of HI1.out.hr he
      have HE := Aside0.mk he
      have HLX := Aside0.mk hlx
      have HEO := Aside0.mk (HI1.out.hr.ent e he)
      have HKEY := Aside0.mk hkey
      have HXL := Aside0.mk (show e.xs.length ≤ 1099511627776 from Nat.le_trans (Hd.xs_le he) (Nat.le_of_lt HI.out.cm))
      have HRG1 := Aside0.mk hrg1
      have hlt1 : cnt1 ≤ cnt - 1 ∧ cnt - 1 < cnt := by omega
      clear hmo hmi hv hat hlx HI hrg hrg1 he hkey hg1 hs1
      obtain ⟨els, xs, eg, elv, esv⟩ := e
      dsimp only at hxne HEO HKEY HXL HLX hen
      obtain ⟨gs, cs, hsv, hgs, _, _⟩ := Kd.R_form HEO.out.sam (List.length_pos_iff.2 hxne)
      dsimp only at hsv
      subst hsv
      obtain ⟨n, hn⟩ : ∃ n, n = xs.length := ⟨_, rfl⟩
      obtain ⟨p, hp⟩ : ∃ p, p = Hd.pos xs low := ⟨_, rfl⟩
      have hpn : p ≤ n := by rw [hp, hn]; exact Hd.pos_le _ _
      have hn0 : 0 < n := by rw [hn]; exact List.length_pos_iff.2 hxne
      have HN := Aside0.mk hn
      have HP := Aside0.mk hp
      obtain ⟨ad, had⟩ : ∃ ad : Addr, ad = ⟨gs, 0, none⟩ := ⟨_, rfl⟩
      have HAD := Aside0.mk had
      have HBK := Aside0.mk (show w1.heap[eg]? = some (.cells #[elv, .slice (some ad) n cs] 120 (0, 0)) by have := HEO.out.blk; rw [had, hn]; exact this)
      have HT := Aside0.mk (show ∀ j : Nat, j < n → ∃ t, w1.cell? (ad.add (j * 2)) = some (.int .i64 t) ∧ (j < p → t < low) ∧ (p ≤ j → ¬ t < low) from fun j hj => by
        obtain ⟨_, _, _, cur, _, _, hcell⟩ := R44_cells HEO.out.sam
        have hjl : j < xs.length := by omega
        refine ⟨xs[j].f0, ?_, fun h2 => ?_, fun h2 => ?_⟩
        · rw [had, add_plain]; exact (hcell j xs[j] (List.getElem?_eq_getElem hjl)).1
        · exact Hd.pos_low hjl (by omega)
        · have hri : Hd.rising xs := HI1.out.hr.ok.rise (els, xs) (List.mem_map_of_mem HE.out)
          have := Hd.pos_high hri (t := low) hjl (by omega)
          omega)
      clear hgs hn hp had hxne
      go_upto_block 2 with fail
      go_cut [8] from 20 to 40 (fun v8 wx => v8 = .int .i64 (p : Nat) ∧ w1 = wx)
      case first =>
        go_wp2_with fail
        go_loopg [8] p (fun kx v8 wx => ∃ j : Nat, v8 = .int .i64 j ∧ j ≤ p ∧ p - j ≤ kx ∧ wx = w1)
        case atStart => exact ⟨0, rfl, Nat.zero_le _, Nat.le_refl _, rfl⟩
        case round =>
          obtain ⟨j, rfl, hj, hjx, rfl⟩ := hrel
          have y1 := (blk_cell HBK.out 1).trans (show (#[elv, .slice (some ad) n cs] : Array Value)[1]? = some (.slice (some ad) n cs) from rfl)
          have hj9 : j ≤ 9223372036854775806 := by have := HXL.out; have := HN.out; omega
          by_cases hjp : j < p
          · have hjn : (j : Int) < (n : Int) := by omega
            have hj0 : (0 : Int) ≤ (j : Int) := by omega
            obtain ⟨t, y2, ht, _⟩ := HT.out j (by omega)
            have htl := ht hjp
            go_wp2
            go_roundg (p - (j + 1))
            case measure => omega
            case rel => exact ⟨j + 1, by go_num, hjp, Nat.le_refl _, rfl⟩
          · have hjp' : j = p := by omega
            subst hjp'
            by_cases hjn : j < n
            · have hjnz : (j : Int) < (n : Int) := by omega
              have hj0 : (0 : Int) ≤ (j : Int) := by omega
              obtain ⟨t, y2, _, ht⟩ := HT.out j hjn
              have htl := ht (Nat.le_refl _)
              go_wp2
              go_meet
              case rel => exact ⟨rfl, rfl⟩
            · have hjnz : ¬ (j : Int) < (n : Int) := by omega
              go_wp2
              go_meet
              case rel => exact ⟨rfl, rfl⟩
      case rest =>
        obtain ⟨rfl, rfl⟩ := hcut
        by_cases hp0 : p = 0
        · obtain ⟨z, hz⟩ : ∃ z : Int, z = (p : Int) := ⟨_, rfl⟩
          have hz0 : z = 0 := by omega
          subst hz0
          rw [← hz]
          clear hz
          have HI2 := Aside0.mk (HI1.out.skip HH.out.ok HE.out HLX.out (by rw [← hp0]; exact HP.out.symm))
          go_wp2
          go_roundg cnt1
          case measure => omega
          case rel => exact ⟨_, cnt1, M, G, D', HRG1.out, Nat.le_refl _, HI2⟩
        · have hpz : ¬ (p : Int) = 0 := by omega
          go_upto_region 9 with fail
          obtain ⟨Al, cl, elv_e⟩ := Kd.R_slice HEO.out.lab
          dsimp only at elv_e
          subst elv_e
          obtain ⟨nl, hnl⟩ : ∃ nl, nl = els.length := ⟨_, rfl⟩
          have HNL := Aside0.mk hnl
          rw [← hnl] at HBK
          obtain ⟨DG, hmg1, hmg2⟩ := HI1.out.mg
          have HMG1 := Aside0.mk hmg1
          have HGL := Aside0.mk (show G.length ≤ 1000 from by
            have h1 : (Hd.abs G).length = G.length := by unfold Hd.abs; rw [List.length_map]
            have h2 := HH.out.ok.len
            rw [← h1, HI1.out.ag]
            exact Nat.le_trans (List.length_filterMap_le _ _) h2)
          have y0 := (blk_cell HBK.out 0).trans (show (#[.slice Al nl cl, .slice (some ad) n cs] : Array Value)[0]? = some (.slice Al nl cl) from rfl)
          have y1 := (blk_cell HBK.out 1).trans (show (#[.slice Al nl cl, .slice (some ad) n cs] : Array Value)[1]? = some (.slice (some ad) n cs) from rfl)
          obtain ⟨i0, hi0, _, hsz0, _⟩ := info_parts info44
          have hncs : n ≤ cs := by rw [HN.out]; exact (Kd.R_reads' HEO.out.sam).2.1
          have hcut := cut_to_max (P := Try.prog) 50 44 .i64 .i64 Try.underlying50 hi0 (some ad) n cs (p : Int) (p : Int) (by omega) (by omega) (by omega) hncs
          rw [Int.toNat_natCast] at hcut
          have HNCS := Aside0.mk hncs
          clear hnl hmg1 hmg2 hncs
          have HBD := Aside0.mk (below_drew1 (Below.refl w1.heap.size w1))
          refine start_ (n := 16) (S := fun w' => w'.cell? ⟨eg, 0, none⟩ = some (.slice Al nl cl) ∧ w'.cell? ⟨eg, 1, none⟩ = some (.slice (some ad) n cs)) (ds := [15]) #[false, false, false, false, false, false, false, false, false, false, false, false, false, false, false, false] (by kernel_rfl) rfl rfl ⟨y0, y1⟩ (fun hHeld => ?_)
          generalize w1.drew = WD at HBD hHeld ⊢
          refine pure_ (i := 0) (N := (some 43)) (v := ?_) (a' := ?_) #[true, false, false, false, false, false, false, false, false, false, false, false, false, false, false, false] rfl rfl (by kernel_rfl) (fun _ _ _ h => h) (Or.inl ⟨by rfl, ?_⟩) ?_ ?_
          rotate_left
          · intro w'
            go_simp
            with_reducible rfl
          rotate_left
          · simp only [Act.put, List.setIfInBounds_toArray, List.set_cons_zero, List.set_cons_succ, i64_w, i32_w]
            rfl
          refine pure_ (i := 1) (N := (some 44)) (v := ?_) (a' := ?_) #[true, true, false, false, false, false, false, false, false, false, false, false, false, false, false, false] rfl rfl (by kernel_rfl) (fun _ _ _ h => h) (Or.inl ⟨by rfl, ?_⟩) ?_ ?_
          rotate_left
          · intro w'
            go_simp
            with_reducible rfl
          rotate_left
          · simp only [Act.put, List.setIfInBounds_toArray, List.set_cons_zero, List.set_cons_succ, i64_w, i32_w]
            rfl
          refine pure_ (i := 2) (N := (some 45)) (v := ?_) (a' := ?_) #[true, true, true, false, false, false, false, false, false, false, false, false, false, false, false, false] rfl rfl (by kernel_rfl) (fun _ _ _ h => h) (Or.inl ⟨by rfl, ?_⟩) ?_ ?_
          rotate_left
          · intro w'
            go_simp
            with_reducible rfl
          rotate_left
          · simp only [Act.put, List.setIfInBounds_toArray, List.set_cons_zero, List.set_cons_succ, i64_w, i32_w]
            rfl
          refine pure_ (i := 3) (N := (some 46)) (v := ?_) (a' := ?_) #[true, true, true, true, false, false, false, false, false, false, false, false, false, false, false, false] rfl rfl (by kernel_rfl) (fun _ _ _ h => h) (Or.inl ⟨by rfl, ?_⟩) ?_ ?_
          rotate_left
          · intro w'
            go_simp
            with_reducible rfl
          rotate_left
          · simp only [Act.put, List.setIfInBounds_toArray, List.set_cons_zero, List.set_cons_succ, i64_w, i32_w]
            rfl
          refine pure_ (i := 4) (N := (some 47)) (v := ?_) (a' := ?_) #[true, true, true, true, true, false, false, false, false, false, false, false, false, false, false, false] rfl rfl (by kernel_rfl) (fun _ _ _ h => h) (Or.inl ⟨by rfl, ?_⟩) ?_ ?_
          rotate_left
          · intro w'
            go_simp
            with_reducible rfl
          rotate_left
          · simp only [Act.put, List.setIfInBounds_toArray, List.set_cons_zero, List.set_cons_succ, i64_w, i32_w]
            rfl
          refine take_ (i := 5) (N := (some 48)) (v := ?_) (a' := ?_) #[true, true, true, true, true, true, false, false, false, false, false, false, false, false, false, false] rfl rfl (by kernel_rfl) (fun _ _ _ h => h) (Or.inl ⟨by rfl, ?_⟩) hHeld ?_ ?_
          rotate_left
          · rintro w' ⟨s0, s1⟩
            go_simp
            with_reducible rfl
          rotate_left
          · simp only [Act.put, List.setIfInBounds_toArray, List.set_cons_zero, List.set_cons_succ, i64_w, i32_w]
            rfl
          refine pure_ (i := 6) (N := (some 49)) (v := ?_) (a' := ?_) #[true, true, true, true, true, true, true, false, false, false, false, false, false, false, false, false] rfl rfl (by kernel_rfl) (fun _ _ _ h => h) (Or.inl ⟨by rfl, ?_⟩) ?_ ?_
          rotate_left
          · intro w'
            go_simp
            with_reducible rfl
          rotate_left
          · simp only [Act.put, List.setIfInBounds_toArray, List.set_cons_zero, List.set_cons_succ, i64_w, i32_w]
            rfl
          refine pure_ (i := 7) (N := (some 50)) (v := ?_) (a' := ?_) #[true, true, true, true, true, true, true, true, false, false, false, false, false, false, false, false] rfl rfl (by kernel_rfl) (fun _ _ _ h => h) (Or.inl ⟨by rfl, ?_⟩) ?_ ?_
          rotate_left
          · intro w'
            go_simp
            with_reducible rfl
          rotate_left
          · simp only [Act.put, List.setIfInBounds_toArray, List.set_cons_zero, List.set_cons_succ, i64_w, i32_w]
            rfl
          refine pure_ (i := 8) (N := (some 51)) (v := ?_) (a' := ?_) #[true, true, true, true, true, true, true, true, true, false, false, false, false, false, false, false] rfl rfl (by kernel_rfl) (fun _ _ _ h => h) (Or.inl ⟨by rfl, ?_⟩) ?_ ?_
          rotate_left
          · intro w'
            go_simp
            with_reducible rfl
          rotate_left
          · simp only [Act.put, List.setIfInBounds_toArray, List.set_cons_zero, List.set_cons_succ, i64_w, i32_w]
            rfl
          refine take_ (i := 9) (N := (some 52)) (v := ?_) (a' := ?_) #[true, true, true, true, true, true, true, true, true, true, false, false, false, false, false, false] rfl rfl (by kernel_rfl) (fun _ _ _ h => h) (Or.inl ⟨by rfl, ?_⟩) hHeld ?_ ?_
          rotate_left
          · rintro w' ⟨s0, s1⟩
            go_simp
            with_reducible rfl
          rotate_left
          · simp only [Act.put, List.setIfInBounds_toArray, List.set_cons_zero, List.set_cons_succ, i64_w, i32_w]
            rfl
          refine pure_ (i := 10) (N := (some 53)) (v := ?_) (a' := ?_) #[true, true, true, true, true, true, true, true, true, true, true, false, false, false, false, false] rfl rfl (by kernel_rfl) (fun _ _ _ h => h) (Or.inl ⟨by rfl, ?_⟩) ?_ ?_
          rotate_left
          · intro w'
            go_simp
            with_reducible rfl
          rotate_left
          · simp only [Act.put, List.setIfInBounds_toArray, List.set_cons_zero, List.set_cons_succ, i64_w, i32_w]
            rfl
          refine pure_ (i := 11) (N := (some 54)) (v := ?_) (a' := ?_) #[true, true, true, true, true, true, true, true, true, true, true, true, false, false, false, false] rfl rfl (by kernel_rfl) (fun _ _ _ h => h) (Or.inl ⟨by rfl, ?_⟩) ?_ ?_
          rotate_left
          · intro w'
            go_simp
            with_reducible rfl
          rotate_left
          · simp only [Act.put, List.setIfInBounds_toArray, List.set_cons_zero, List.set_cons_succ, i64_w, i32_w]
            rfl
          refine pure_ (i := 12) (N := (some 55)) (v := ?_) (a' := ?_) #[true, true, true, true, true, true, true, true, true, true, true, true, true, false, false, false] rfl rfl (by kernel_rfl) (fun _ _ _ h => h) (Or.inl ⟨by rfl, ?_⟩) ?_ ?_
          rotate_left
          · intro w'
            go_simp
            with_reducible rfl
          rotate_left
          · simp only [Act.put, List.setIfInBounds_toArray, List.set_cons_zero, List.set_cons_succ, i64_w, i32_w]
            rfl
          refine pure_ (i := 13) (N := (some 56)) (v := ?_) (a' := ?_) #[true, true, true, true, true, true, true, true, true, true, true, true, true, true, false, false] rfl rfl (by kernel_rfl) (fun _ _ _ h => h) (Or.inl ⟨by rfl, ?_⟩) ?_ ?_
          rotate_left
          · intro w'
            go_simp
            with_reducible rfl
          rotate_left
          · simp only [Act.put, List.setIfInBounds_toArray, List.set_cons_zero, List.set_cons_succ, i64_w, i32_w]
            rfl
          refine one_ (i := 14) (N := (some 57)) #[true, true, true, true, true, true, true, true, true, true, true, true, true, true, true, false] rfl rfl (by kernel_rfl) (by decide) (fun K hK => ?_)
          refine box_step ?hg (N := 57) ?hd (cs := #[.slice Al nl cl, .slice (some ad) p p]) (t := 120) ?hr ?_
          (case hd => rfl)
          (case hg => rfl)
          (case hr => first | (go_simp; done) | (go_simp; rfl))
          intro gx hg_ WE bkx hbe
          have HBX := Aside0.mk bkx
          have HGX := Aside0.mk (show w1.heap.size ≤ gx by rw [hg_]; exact HBD.out.size)
          have HBE := Aside0.mk (below_step HBD.out hbe)
          clear hbe bkx hg_
          refine hK.out _ _ ⟨(blk_cell (blk_below HBK.out HBE.out) 0).trans rfl, (blk_cell (blk_below HBK.out HBE.out) 1).trans rfl⟩ (fun hHeld => ?_)
          clear hK K
          refine norm_ (a' := ?_) ?_ ?_
          rotate_left
          · show Act.put _ (some 57) _ = _
            simp only [Act.put, List.setIfInBounds_toArray, List.set_cons_zero, List.set_cons_succ, i64_w, i32_w]
            rfl
          refine last_ (i := 15) (N := none) #[true, true, true, true, true, true, true, true, true, true, true, true, true, true, true, true] rfl rfl (by kernel_rfl) (by decide) (fun K hK => ?_)
          obtain ⟨W4, hrun4, hown4, hg4⟩ := World.ownsMap.update (Hd.owns_move HMG1.out (HBE.out.block gb HMG1.out.lt)) Hd.law9 Try.underlying113 (show G.length < maxLen by have := HGL.out; unfold maxLen; omega) HKEY.out (Hd.RP_ptr gx)
          refine skip_ (w1 := W4) (by rfl) rfl ?_ ?_
          · simp [execOp, Act.eval, hrun4, Result.andThen]
          have HOW4 := Aside0.mk hown4
          have HGW4 := Aside0.mk hg4
          clear hrun4 hown4 hg4
          refine hK.out _ _ ?_
          clear hK K
          refine done_ (by kernel_rfl) ?_
          have hmt : ∀ (cs : Array Value) (t : TypeId), WE.heap[gb]? ≠ some (.cells cs t (0, 0)) := Hd.owns_obj (Hd.owns_move HMG1.out (HBE.out.block gb HMG1.out.lt))
          have hne4 : ∀ {k : Nat} {cs : Array Value} {t : TypeId}, WE.heap[k]? = some (.cells cs t (0, 0)) → some k ≠ some gb := fun h1 h2 => hmt _ _ (by rw [← show _ = gb by injection h2]; exact h1)
          have HG4 := Aside0.mk (blk_grown (blk_below HBK.out HBE.out) HGW4.out (hne4 (blk_below HBK.out HBE.out)))
          have HGX4 := Aside0.mk (blk_grown HBX.out HGW4.out (hne4 HBX.out))
          have HHD4 := Aside0.mk (blk_grown (blk_below HI1.out.hr.head HBE.out) HGW4.out (hne4 (blk_below HI1.out.hr.head HBE.out)))
          have HK4 := Aside0.mk (show ∀ k, k < w1.heap.size → k ≠ gb → W4.heap[k]? = w1.heap[k]? from fun k hk hn => (HGW4.out.block k (Nat.lt_of_lt_of_le hk HBE.out.size) (fun e => hn (by injection e))).trans (HBE.out.block k hk))
          have hsam4 : k44.R 44 W4 base (fun _ => True) (.slice (some ⟨gs, 0, none⟩) xs.length cs) xs := Hd.R44_move HEO.out.sam (fun k hk => HK4.out k (HEO.out.lt k (.inr (.inr hk))).2 (HI1.out.apart (.inr (.inr ⟨_, HE.out, .inr (.inr hk)⟩))))
          obtain ⟨A9, hA9⟩ : ∃ A9, A9 = (if cs = p then some ad else (some ad).map (·.add (p * 2))) := ⟨_, rfl⟩
          obtain ⟨ys, hys⟩ : ∃ ys, ys = xs.drop p := ⟨_, rfl⟩
          have HYS := Aside0.mk hys
          have hyl : ys.length = n - p := by rw [hys, List.length_drop, HN.out]
          have hC9 : Kd.C k44 W4 A9 ys.length ys := by
            have h1 := Kd.C_drop (c := cs) (Kd.R_reads' hsam4).2.2 (m := p) (by rw [← HN.out]; exact hpn) (by rw [← HN.out]; exact HNCS.out)
            rw [← hys] at h1
            rw [hA9, HAD.out]
            exact h1
          have HCL := Aside0.mk (api_Sample_73.calls A9 (cs - p) ys ys W4 hC9 (by have := HNCS.out; omega) (by unfold api_Sample_73.f; rw [if_pos (by have := HXL.out; have := HN.out; omega)]))
          obtain ⟨m, hm⟩ : ∃ m, m = n - p := ⟨_, rfl⟩
          rw [hyl, ← hm] at HCL
          have HM := Aside0.mk hm
          have HYL := Aside0.mk (show ys.length = m by rw [hyl, hm])
          have hcut2 : ∀ W : World, (Instr.slice 50 (.slice (some ad) n cs) (some (.int .i64 (p : Int))) none none).run Try.prog W = .ok (.slice A9 m (cs - p)) W := fun W => by
            have h := cut_from (P := Try.prog) 50 44 .i64 Try.underlying50 hi0 2 hsz0 (some ad) n cs (p : Int) (by omega) (by omega) W
            rw [Int.toNat_natCast, ← hA9, ← hm] at h
            exact h
          have y14 := (blk_cell HG4.out 1).trans (show (#[.slice Al nl cl, .slice (some ad) n cs] : Array Value)[1]? = some (.slice (some ad) n cs) from rfl)
          clear y0 y1 hcut hmt hne4 hsam4 hA9 hys hyl hC9 hm hHeld
          go_upto_region 11 with (go_at_call 73; (with_reducible refine HCL.out.mono ?_); rintro e_ W5 ⟨v5, rfl, hr5, hb5⟩; obtain ⟨A5, c5, ev5⟩ := Kd.R_slice hr5; rw [HYL.out] at ev5; subst ev5; have HR5 := Aside0.mk hr5; have HB5 := Aside0.mk hb5; have HG5 := Aside0.mk (blk_below HG4.out hb5); have y15 := (blk_cell HG5.out 1).trans (show (#[.slice Al nl cl, .slice (some ad) n cs] : Array Value)[1]? = some (.slice (some ad) n cs) from rfl); have y16 := blk_frozen HG5.out 1; clear hr5 hb5)
          refine cwp_world ?_
          intro W6 hW6
          have hty : ∀ {k : Nat}, (Value.slice A5 m c5).ownBlock = some k → ∃ cells, W5.heap[k]? = some (.cells cells 44 (0, 0)) := fun {k} hk => Kd.R_typed HR5.out k hk
          have HTY := Aside0.mk (show ∀ k, (Value.slice A5 m c5).ownBlock = some k → k ≠ eg ∧ k ≠ hb from fun k hk => by
            obtain ⟨cells, h1⟩ := hty hk
            constructor
            · rintro rfl
              exact absurd (Hd.type_ne HG5.out h1) (by decide)
            · rintro rfl
              exact absurd (Hd.type_ne (blk_below HHD4.out HB5.out) h1) (by decide))
          have hhe : hb ≠ eg := by
            rintro rfl
            exact absurd (Hd.type_ne (blk_below HHD4.out HB5.out) HG5.out) (by decide)
          have hxe : gx ≠ eg := fun e => by
            have := (HEO.out.lt eg (.inl rfl)).2
            have := HGX.out
            omega
          have hxh : gx ≠ hb := by
            rintro rfl
            exact absurd (Hd.type_ne (blk_below HHD4.out HB5.out) (blk_below HGX4.out HB5.out)) (by decide)
          have hge : gb ≠ eg := fun e => HI1.out.apart (.inr (.inr ⟨_, HE.out, .inl rfl⟩)) e.symm
          have hgh : gb ≠ hb := fun e => HI1.out.apart (.inl rfl) e.symm
          have HNE := Aside0.mk (⟨hhe, hxe, hxh, hge, hgh⟩ : hb ≠ eg ∧ gx ≠ eg ∧ gx ≠ hb ∧ gb ≠ eg ∧ gb ≠ hb)
          obtain ⟨ct, hct⟩ : ∃ ct : Nat, ct = Hd.cnt (Hd.abs M) := ⟨_, rfl⟩
          have HCTE := Aside0.mk hct
          have hpc : p ≤ ct := by have h1 : xs.length ≤ Hd.cnt (Hd.abs M) := Hd.xs_le HE.out; have := HN.out; rw [hct]; omega
          have hctb : ct ≤ 1099511627776 := by rw [hct]; exact Nat.le_of_lt HI1.out.cm
          have hhd5 := blk_below HHD4.out HB5.out
          rw [← hct] at hhd5
          have hfar6 : ∀ k, k ≠ eg → W6.heap[k]? = W5.heap[k]? := fun k hk => by rw [hW6]; exact Below.heap_setCell _ ⟨eg, 1, none⟩ _ k hk
          have HFAR6 := Aside0.mk hfar6
          have HHD6 := Aside0.mk ((hfar6 hb hhe).trans hhd5)
          have HG6 := Aside0.mk (show W6.heap[eg]? = some (.cells #[.slice Al nl cl, .slice A5 m c5] 120 (0, 0)) by rw [hW6]; exact blk_put HG5.out 1 _ rfl)
          have HO6 := Aside0.mk (show W6.os = W5.os ∧ W6.tape = W5.tape ∧ W6.output = W5.output ∧ W5.heap.size = W6.heap.size by rw [hW6]; exact ⟨rfl, rfl, rfl, by simp [World.setCell]⟩)
          have q0 := (blk_cell HHD6.out 2).trans (show (#[.int .i64 win, .map (some mb), .int .i64 (ct : Nat)] : Array Value)[2]? = some (.int .i64 (ct : Nat)) from rfl)
          have q1 := blk_frozen HHD6.out 2
          clear hW6 hty hhe hxe hxh hge hgh hct hhd5 hfar6 y15 y16 y14 hcut2
          go_upto_region 12 with fail
          refine cwp_world ?_
          intro W7 hW7
          have hfar7 : ∀ k, k ≠ hb → W7.heap[k]? = W6.heap[k]? := fun k hk => by rw [hW7]; exact Below.heap_setCell _ ⟨hb, 2, none⟩ _ k hk
          have HG7 := Aside0.mk ((hfar7 eg (Ne.symm HNE.out.1)).trans HG6.out)
          have HCUT := Aside0.mk (show Hd.CutR w1 W7 hb mb gb gx p m win base M G ⟨els, xs, eg, .slice Al nl cl, .slice (some ⟨gs, 0, none⟩) xs.length cs⟩ ad (.slice A5 m c5) from by
            have hk7 : ∀ k, k < w1.heap.size → k ≠ eg → k ≠ hb → k ≠ gb → W7.heap[k]? = w1.heap[k]? := fun k hk h1 h2 h3 => by
              have hlt4 : k < W4.heap.size := Nat.lt_of_lt_of_le hk (Nat.le_trans HBE.out.size HGW4.out.size)
              exact (hfar7 k h2).trans ((HFAR6.out k h1).trans ((HB5.out.block k hlt4).trans (HK4.out k hk h3)))
            have hgx4 := blk_lt HGX4.out
            have hgb4 := HOW4.out.lt
            have hw14 : w1.heap.size ≤ W4.heap.size := Nat.le_trans HBE.out.size HGW4.out.size
            refine ⟨HG7.out, ?_, ?_, ?_, HGX.out, fun DG' hD' => ?_, hk7, ?_, ?_, ?_, ?_, ⟨cs, ?_, ?_⟩⟩
            · rw [← HCTE.out, hW7, show ((ct - p : Nat) : Int) = (ct : Int) - (p : Int) by omega]
              exact blk_put HHD6.out 2 _ rfl
            · exact (hfar7 gx HNE.out.2.2.1).trans ((HFAR6.out gx HNE.out.2.1).trans ((HB5.out.block gx hgx4).trans HGX4.out))
            · have h1 := Kd.R_lower HR5.out hw14
              rw [HYS.out] at h1
              exact Hd.R44_move h1 (fun k hk => (hfar7 k (HTY.out k hk).2).trans (HFAR6.out k (HTY.out k hk).1))
            · rw [Hd.map_uniq hD' HMG1.out]
              exact Hd.owns_move HOW4.out ((hfar7 gb HNE.out.2.2.2.2).trans ((HFAR6.out gb HNE.out.2.2.2.1).trans (HB5.out.block gb hgb4)))
            · rw [hW7]; exact HO6.out.1.trans (HB5.out.os.trans (HGW4.out.os.trans HBE.out.os))
            · rw [hW7]; exact HO6.out.2.1.trans (HB5.out.tape.trans (HGW4.out.tape.trans HBE.out.tape))
            · rw [hW7]; exact HO6.out.2.2.1.trans (HB5.out.output.trans (HGW4.out.output.trans HBE.out.output))
            · have h1 := HB5.out.size
              have h2 := HO6.out.2.2.2
              have h3 : W7.heap.size = W6.heap.size := by rw [hW7]; simp [World.setCell]
              omega
            · rw [HAD.out]
            · dsimp only
              rw [← HN.out]; exact HNCS.out)
          have y7 := (blk_cell HG7.out 1).trans (show (#[.slice Al nl cl, .slice A5 m c5] : Array Value)[1]? = some (.slice A5 m c5) from rfl)
          have hmlt : mb < w1.heap.size := (HI1.out.hr.lt mb (.inr (.inl rfl))).2
          have hmo : ∀ cs t, w1.heap[mb]? ≠ some (.cells cs t (0, 0)) := Hd.owns_obj HRG1.out.owns
          have HMB7 := Aside0.mk (HCUT.out.old mb hmlt (fun e => hmo _ _ (by rw [e]; exact (HI1.out.hr.ent _ HE.out).blk)) (fun e => hmo _ _ (by rw [e]; exact HI1.out.hr.head)) HI1.out.ng)
          have HRG7 := Aside0.mk (Hd.ranges_move HRG1.out HMB7.out (by
            obtain ⟨es, clock, since, seen, c0, _, _, _, _, hrr, _⟩ := HRG1.out
            have hro : ∀ cs t, w1.heap[r]? ≠ some (.cells cs t (0, 0)) := fun cs t h2 => by rw [hrr] at h2; cases h2
            exact HCUT.out.old r HRG1.out.lt (fun e => hro _ _ (by rw [e]; exact (HI1.out.hr.ent _ HE.out).blk)) (fun e => hro _ _ (by rw [e]; exact HI1.out.hr.head)) (fun e => by
              obtain ⟨es', ck, h5, _⟩ := HMG1.out
              rw [← e, hrr] at h5
              cases h5)))
          have b7 := (blk_cell HCUT.out.hhd 1).trans (show (#[.int .i64 win, .map (some mb), .int .i64 ((Hd.cnt (Hd.abs M) - p : Nat) : Int)] : Array Value)[1]? = some (.map (some mb)) from rfl)
          clear hW7 hfar7 hmlt hmo q0 q1
          have HE2 := Aside0.mk (show (⟨els, xs, eg, .slice Al nl cl, .slice (some ⟨gs, 0, none⟩) xs.length cs⟩ : Hd.Ent) ∈ M by rw [HNL.out]; exact HE.out)
          by_cases hm0 : m = 0
          · have hrg7 := HRG7.out
            have hm0' : ((m : Nat) : Int) = 0 := by omega
            subst hm0
            go_wp2_with (first | (at_delete; refine wpList_delete_ranges _ rfl _ _ 113 9 rfl 117 Hd.law9 Try.underlying113 Hd.RP mb r S.length _ _ _ rfl hrg7 _ _ rfl HKEY.out ?_; intro W8 cnt8 hrg8 hle hturn; go_frame) | go_in)
            rw [Maps.strike_twice] at hrg8
            obtain ⟨M', G', hI8⟩ := HI1.out.all HCUT.out HH.out.ok HE2.out HLX.out HP.out (by omega) (by dsimp only; have := HM.out; have := HN.out; omega) hturn.grown (fun D hD => by have e := Hd.map_uniq hD HRG1.out.owns; subst e; exact ⟨_, hrg8.owns⟩)
            have HI8 := Aside0.mk hI8
            go_roundg cnt8
            case measure => omega
            case rel => exact ⟨_, cnt8, M', G', _, hrg8, Nat.le_refl _, HI8⟩
          · have hm0' : ¬ ((m : Nat) : Int) = 0 := by omega
            obtain ⟨M', G', hI7⟩ := HI1.out.keep HCUT.out HH.out.ok HE2.out HLX.out HP.out (by omega) (by dsimp only; have := HM.out; have := HN.out; omega)
            have HI7 := Aside0.mk hI7
            clear hI7
            go_wp2
            go_roundg cnt1
            case measure => omega
            case rel => exact ⟨_, cnt1, M', G', D', HRG7.out, Nat.le_refl _, HI7⟩
end
end Go.Proofs.Ytcgocdhffcnleaa.PHead

/- A part of the proofs about the head: see the theorems' own lines. -/
namespace Go.Proofs.Ytcgocdhffcnleaa.PHead
open Go Go.RowKit Go.Proofs.YtcgocdhffcnleaaW.PrintWords Go.Proofs.YtcgocdhffcnleaaW.PrintLast Go.Proofs.YtcgocdhffcnleaaW.PrintMore Go.Proofs.Ytcgocdhffcnleaa.XB Go.Proofs.Ytcgocdhffcnleaa.PHeadPlays Go.Proofs.Ytcgocdhffcnleaa.XH
set_option linter.unusedVariables false
set_option linter.unusedSimpArgs false
section
open Go.Proofs.Ytcgocdhffcnleaa.XP
/-! ### two rows of samples that are one -/
theorem Bt.wiS {i n : Nat} (h : i < n) (hn : n ≤ 1152921504606846976) : wrap64 ((i : Int) + 1) = ((i + 1 : Nat) : Int) := by rw [w64 (by omega) (by omega)]; omega
theorem Bt.sams_l0 (a : List S44) (hn : a.length ≤ 1152921504606846976) : ∀ (d i : Nat), i + d = a.length → Ev (fun k => lysimeterref11_SameSamples.l0 k a a (i : Int)) true := by
  intro d
  induction d with
  | zero =>
    intro i hi
    refine Ev.step (f := fun _ => some true) (fun k => ?_) (Ev.now _)
    simp only [lysimeterref11_SameSamples.l0]
    rw [if_neg (by omega)]
  | succ d ih =>
    intro i hi
    have hlt : i < a.length := by omega
    refine Ev.step (f := fun k => lysimeterref11_SameSamples.l0 k a a ((i + 1 : Nat) : Int)) (fun k => ?_) (ih (i + 1) (by omega))
    simp only [lysimeterref11_SameSamples.l0]
    rw [if_pos (by omega), if_pos (by omega), if_pos (by omega), if_neg (by simp), Bt.wiS hlt hn]
theorem Bt.sams_self {a : List S44} (hn : a.length ≤ 1152921504606846976) : Ev (fun k => lysimeterref11_SameSamples.f k a a) true := by
  unfold lysimeterref11_SameSamples.f
  exact ev_if_pos rfl (Bt.sams_l0 a hn a.length 0 (by omega))
/-! ### labels and series that are one -/
theorem Bt.rdR_nat {l : List S68} {i : Nat} (h : i < l.length) : rd_T68 l (i : Int) = l[i] := by
  unfold rd_T68
  rw [Int.toNat_natCast, List.getD_eq_getElem?_getD, List.getElem?_eq_getElem h]; rfl
theorem Bt.labs_l0 (a : List S53) (hn : a.length ≤ 1152921504606846976) : ∀ (d i : Nat), i + d = a.length → Ev (fun k => lysimeterref11_SameLabels.l0 k a a (i : Int)) true := by
  intro d
  induction d with
  | zero =>
    intro i hi
    refine Ev.step (f := fun _ => some true) (fun k => ?_) (Ev.now _)
    simp only [lysimeterref11_SameLabels.l0]
    rw [if_neg (by omega)]
  | succ d ih =>
    intro i hi
    have hlt : i < a.length := by omega
    refine Ev.step (f := fun k => lysimeterref11_SameLabels.l0 k a a ((i + 1 : Nat) : Int)) (fun k => ?_) (ih (i + 1) (by omega))
    simp only [lysimeterref11_SameLabels.l0]
    rw [if_pos (by omega), if_pos (by omega), if_pos (by omega), if_neg (by simp), Bt.wiS hlt hn]
theorem Bt.labs_self {a : List S53} (hn : a.length ≤ 1152921504606846976) : Ev (fun k => lysimeterref11_SameLabels.f k a a) true := by
  unfold lysimeterref11_SameLabels.f
  exact ev_if_pos rfl (Bt.labs_l0 a hn a.length 0 (by omega))
theorem Bt.sers_l0 (a : List S68) (hn : a.length ≤ 1152921504606846976) (hm : ∀ y ∈ a, y.f0.length ≤ 1152921504606846976 ∧ y.f1.length ≤ 1152921504606846976) : ∀ (d i : Nat), i + d = a.length → Ev (fun k => lysimeterref11_SameSeries.l0 k a a (i : Int)) true := by
  intro d
  induction d with
  | zero =>
    intro i hi
    refine Ev.step (f := fun _ => some true) (fun k => ?_) (Ev.now _)
    simp only [lysimeterref11_SameSeries.l0]
    rw [if_neg (by omega)]
  | succ d ih =>
    intro i hi
    have hlt : i < a.length := by omega
    have hb := hm a[i] (List.getElem_mem hlt)
    refine Ev.step (f := fun k => (lysimeterref11_SameLabels.f k a[i].f0 a[i].f0).bind fun t143 => (lysimeterref11_SameSamples.f k a[i].f1 a[i].f1).bind fun t146 => if t143 = true then (if t146 = true then lysimeterref11_SameSeries.l0 k a a ((i + 1 : Nat) : Int) else some false) else some false) (fun k => ?_) (Ev.bind (Bt.labs_self hb.1) (Ev.bind (Bt.sams_self hb.2) (ev_if_pos rfl (ev_if_pos rfl (ih (i + 1) (by omega))))))
    simp only [lysimeterref11_SameSeries.l0]
    rw [if_pos (by omega), if_pos (by omega), if_pos (by omega), Bt.rdR_nat hlt, Bt.wiS hlt hn]
theorem Bt.sers_self {a : List S68} (hn : a.length ≤ 1152921504606846976) (hm : ∀ y ∈ a, y.f0.length ≤ 1152921504606846976 ∧ y.f1.length ≤ 1152921504606846976) : Ev (fun k => lysimeterref11_SameSeries.f k a a) true := by
  unfold lysimeterref11_SameSeries.f
  exact ev_if_pos rfl (Bt.sers_l0 a hn hm a.length 0 (by omega))
theorem Bt.same (A0 A1 : Option Addr) (c0 c1 : Nat) (l : List S68) (w : World) (h0 : Kd.C k68 w A0 l.length l) (h1 : Kd.C k68 w A1 l.length l) (hc0 : l.length ≤ c0) (hc1 : l.length ≤ c1) (hn : l.length ≤ 1152921504606846976) (hm : ∀ y ∈ l, y.f0.length ≤ 1152921504606846976 ∧ y.f1.length ≤ 1152921504606846976) :
    Calls Try.prog 32 #[.slice A0 l.length c0, .slice A1 l.length c1] w fun e w' => e = .returned (.bool true) ∧ Below w.heap.size w w' := by
  obtain ⟨k, hk⟩ := (Bt.sers_self hn hm).rounds
  refine (lysimeterref11_SameSeries.calls k A0 c0 l A1 c1 l true w h0 hc0 h1 hc1 hk).mono ?_
  rintro e w' ⟨rfl, hd⟩
  exact ⟨rfl, hd.below⟩
end
/-! ### BigRows answers something -/
section
open Go.Proofs.Ytcgocdhffcnleaa.XP
theorem Bt.big_l0 (a : List S53) (hn : a.length ≤ 1152921504606846976) : ∀ (d i : Nat) (x : Int), i + d = a.length → ∃ r, Ev (fun k => lysimeterlaw11_Big.l0 k a x (i : Int)) r := by
  intro d
  induction d with
  | zero =>
    intro i x hi
    exact ⟨_, Ev.step (f := fun _ => some (decide (x > 4000))) (fun k => by rw [lysimeterlaw11_Big.l0, if_neg (by omega)]) (Ev.now _)⟩
  | succ d ih =>
    intro i x hi
    have hlt : i < a.length := by omega
    by_cases h : x ≤ 4000
    · obtain ⟨r, hr⟩ := ih (i + 1) (wrap64 ((wrap64 ((wrap64 (x + 1)) + (((rd_T53 a (i : Int)).f0).size : Int))) + (((rd_T53 a (i : Int)).f1).size : Int))) (by omega)
      exact ⟨r, Ev.step (fun k => by rw [lysimeterlaw11_Big.l0, if_pos (by omega), if_pos h, if_pos (by omega), Bt.wiS hlt hn]) hr⟩
    · exact ⟨_, Ev.step (f := fun _ => some (decide (x > 4000))) (fun k => by rw [lysimeterlaw11_Big.l0, if_pos (by omega), if_neg h]) (Ev.now _)⟩
theorem Bt.big (a : List S53) (hn : a.length ≤ 1152921504606846976) : ∃ r, Ev (fun k => lysimeterlaw11_Big.f k a) r := Bt.big_l0 a hn a.length 0 0 (by omega)
theorem Bt.bigRows_l0 (a : List S46) (hn : a.length ≤ 1152921504606846976) (hm : ∀ y ∈ a, y.f0.length ≤ 1152921504606846976) : ∀ (d i : Nat) (x : Int), i + d = a.length → ∃ r, Ev (fun k => lysimeterlaw13_BigRows.l0 k a x (i : Int)) r := by
  intro d
  induction d with
  | zero =>
    intro i x hi
    refine ⟨_, Ev.step (f := fun k => lysimeterlaw13_BigRows.j1 k a x (i : Int) false) (fun k => by rw [lysimeterlaw13_BigRows.l0, if_neg (by omega)]) (Ev.step (f := fun _ => some (decide (x > 20000))) (fun k => by rw [lysimeterlaw13_BigRows.j1, if_neg (by simp)]) (Ev.now _))⟩
  | succ d ih =>
    intro i x hi
    have hlt : i < a.length := by omega
    by_cases h : x ≤ 20000
    · have hrd : rd_T46 a (i : Int) = a[i] := by unfold rd_T46; simp [hlt]
      obtain ⟨b, hb⟩ := Bt.big (rd_T46 a (i : Int)).f0 (by rw [hrd]; exact hm _ (List.getElem_mem hlt))
      obtain ⟨r, hr⟩ := ih (i + 1) (wrap64 ((wrap64 (x + 10)) + (wrap64 ((((rd_T46 a (i : Int)).f0).length : Int) * 8)))) (by omega)
      have h2 : ∃ q, Ev (fun k => (lysimeterlaw11_Big.f k ((rd_T46 a (i : Int)).f0)).bind fun t158 => if t158 = true then some true else lysimeterlaw13_BigRows.l0 k a (wrap64 ((wrap64 (x + 10)) + (wrap64 ((((rd_T46 a (i : Int)).f0).length : Int) * 8)))) ((i + 1 : Nat) : Int)) q := by
        cases b with
        | true => exact ⟨_, Ev.bind hb (ev_if_pos rfl (Ev.now _))⟩
        | false => exact ⟨_, Ev.bind hb (ev_if_neg (by simp) hr)⟩
      obtain ⟨q, hq⟩ := h2
      refine ⟨q, Ev.step (f := fun k => lysimeterlaw13_BigRows.j1 k a x (i : Int) true) (fun k => by rw [lysimeterlaw13_BigRows.l0, if_pos (by omega), decide_eq_true h]) (Ev.step (fun k => by rw [lysimeterlaw13_BigRows.j1, if_pos rfl, if_pos (by omega), if_pos (by omega), Bt.wiS hlt hn]) hq)⟩
    · refine ⟨_, Ev.step (f := fun k => lysimeterlaw13_BigRows.j1 k a x (i : Int) false) (fun k => by rw [lysimeterlaw13_BigRows.l0, if_pos (by omega), decide_eq_false h]) (Ev.step (f := fun _ => some (decide (x > 20000))) (fun k => by rw [lysimeterlaw13_BigRows.j1, if_neg (by simp)]) (Ev.now _))⟩
theorem Bt.bigRows (A : Option Addr) (c : Nat) (l : List S46) (w : World) (hC : Kd.C k46 w A l.length l) (hc : l.length ≤ c) (hn : l.length ≤ 1152921504606846976) (hm : ∀ y ∈ l, y.f0.length ≤ 1152921504606846976) :
    ∃ b, Calls Try.prog 29 #[.slice A l.length c] w fun e w' => e = .returned (.bool b) ∧ Below w.heap.size w w' := by
  obtain ⟨r, hr⟩ := Bt.bigRows_l0 l hn hm l.length 0 0 (by omega)
  obtain ⟨k, hk⟩ := hr.rounds
  refine ⟨r, (lysimeterlaw13_BigRows.calls k A c l r w hC hc hk).mono ?_⟩
  rintro e w' ⟨rfl, hd⟩
  exact ⟨rfl, hd.below⟩
end
/-! ### HeadBatch, in plain lists -/
section
def Bt.bad : S46 := ⟨[⟨⟨#[]⟩, ⟨#[]⟩⟩], ⟨0, 0⟩⟩
def Bt.st (win : Int) (rows : List S46) (i : Nat) : Hd.A := match Hd.askF win (-Hd.maxT) (rows.take i) [] with | .ok L => L | .error _ => []
end
end Go.Proofs.Ytcgocdhffcnleaa.PHead

/- A part of the proofs about the head: see the theorems' own lines. -/
namespace Go.Proofs.Ytcgocdhffcnleaa.PHead
open Go Go.RowKit Go.Proofs.YtcgocdhffcnleaaW.PrintWords Go.Proofs.YtcgocdhffcnleaaW.PrintLast Go.Proofs.YtcgocdhffcnleaaW.PrintMore Go.Proofs.Ytcgocdhffcnleaa.XB Go.Proofs.Ytcgocdhffcnleaa.PHeadPlays Go.Proofs.Ytcgocdhffcnleaa.XH
set_option linter.unusedVariables false
set_option linter.unusedSimpArgs false
/-! ### rows as headers -/
section
structure Bt.H where
  A : Option Addr
  c : Nat
  x : S46
def Bt.enc (h : Bt.H) : List Value := [.slice h.A h.x.f0.length h.c, .int .i64 h.x.f1.f0, .int .i64 h.x.f1.f1]
def Bt.HV (w : World) (h : Bt.H) : Prop := h.x.f0.length ≤ h.c ∧ k53.C w h.A h.x.f0.length h.x.f0
theorem Bt.HV.below {w W : World} {h : Bt.H} (hv : Bt.HV w h) (hb : Below w.heap.size w W) : Bt.HV W h := ⟨hv.1, Kd.C_below hv.2 hb⟩
def Bt.kR : Kd Bt.H where
  sz := 3
  E := []
  K := fun _ x cs => cs = Bt.enc x
  M := fun _ _ _ x cs => cs = Bt.enc x
  K_len := fun h => by rw [h]; rfl
  K_one := fun h u hu => by
    rw [h] at hu
    simp only [Bt.enc, List.mem_cons, List.not_mem_nil, or_false] at hu
    rcases hu with rfl | rfl | rfl <;> rfl
  K_below := fun _ h => h
  K_of_M := fun h => h
  M_mono := fun _ h => h
  M_bound := fun h => h
  M_move := fun _ h => h
  M_lower := fun _ h => h
end
/-! ### heads side by side -/
section
theorem Bt.beside {b1 h1 m1 h2 m2 : Nat} {win : Int} {S1 S2 S2' : List Hd.Ent} {W w' : World} (h : Hd.HR b1 h1 m1 win S1 W) (hf : Hd.Fr (Hd.Own h2 m2 S2) (Hd.Own h2 m2 S2') W w') (hap : ∀ k, Hd.Own h1 m1 S1 k → ¬ Hd.Own h2 m2 S2 k) :
    Hd.HR b1 h1 m1 win S1 w' ∧ ∀ k, Hd.Own h1 m1 S1 k → ¬ Hd.Own h2 m2 S2' k := by
  refine ⟨h.move (fun k hk => hf.blk k (h.lt k hk).2 (hap k hk)), fun k hk hk2 => ?_⟩
  rcases hf.new k hk2 with h3 | h3
  · exact hap k hk h3
  · have := (h.lt k hk).2
    omega
theorem Bt.cnt_ask {win low : Int} : ∀ {rows : List S46} {L L' : Hd.A}, Hd.Ok L → Hd.askF win low rows L = .ok L' → Hd.Ok L' ∧ Hd.cnt L' ≤ Hd.cnt L + rows.length
  | [], L, L', ho, h => by
    injection h with h
    subst h
    exact ⟨ho, Nat.le_refl _⟩
  | r :: rows, L, L', ho, h => by
    rw [Hd.askF] at h
    cases hr : Hd.rowF win low L r with
    | error e => rw [hr] at h; cases h
    | ok L2 =>
      rw [hr] at h
      obtain ⟨ho2, m, _, hL2, _, _⟩ := Hd.rowF_ok ho hr
      obtain ⟨h3, h4⟩ := Bt.cnt_ask ho2 h
      have h5 := Hd.cnt_putL ho.sorted m r.f1
      rw [← hL2] at h5
      refine ⟨h3, ?_⟩
      rw [List.length_cons]
      omega
end
section
theorem Bt.taken {win : Int} {L : Hd.A} {rows : List S46} (h : (Hd.writeF win L rows).1 = 0) : Hd.askF win (-Hd.maxT) rows L = .ok (Hd.writeF win L rows).2 ∧ rows.length ≤ 200 := by
  unfold Hd.writeF at h ⊢
  split
  · rename_i h1; rw [if_pos h1] at h; cases h
  · rename_i h1
    split
    · rename_i h2; rw [if_neg h1, if_pos h2] at h; cases h
    · rename_i h2
      rw [if_neg h1, if_neg h2] at h
      cases ha : Hd.askF win (-Hd.maxT) rows L with
      | error e => rw [ha] at h; exact absurd h (Hd.askF_err ha)
      | ok L' => exact ⟨rfl, by omega⟩
end
section
theorem Bt.c53 {w W' : World} {A : Option Addr} {n : Nat} {xs : List S53} (h : Kd.C k53 w A n xs) (hW : ∀ k, k < w.heap.size → W'.heap[k]? = w.heap[k]?) : Kd.C k53 W' A n xs := by
  obtain ⟨h1, h2, h3⟩ := h
  refine ⟨h1, h2, fun hp => ?_⟩
  obtain ⟨ad, e, hc⟩ := h3 hp
  refine ⟨ad, e, fun j x hj => ?_⟩
  obtain ⟨cs, c1, c2, c3⟩ := hc j x hj
  refine ⟨cs, c1, by rw [k53_open c2]; exact k53_mk W' x, fun i u hu => ?_⟩
  have h4 := c3 i u hu
  have h5 := hW _ (World.block_lt_of_cell? w _ h4)
  unfold World.cell? at h4 ⊢
  rw [h5]
  exact h4
/-- What read at w reads in every world that agrees with a later one on the blocks of w. -/
theorem Bt.HV.old {w W W' : World} {h : Bt.H} {B : Nat} (hv : Bt.HV w h) (hb : Below w.heap.size w W) (hW : ∀ k, (k < w.heap.size ∨ B ≤ k) → k < W.heap.size → W'.heap[k]? = W.heap[k]?) : Bt.HV W' h :=
  ⟨hv.1, Bt.c53 hv.2 (fun k hlt => (hW k (.inl hlt) (Nat.lt_of_lt_of_le hlt hb.size)).trans (hb.block k hlt))⟩
/-- The bad row's labels. -/
theorem Bt.HV.bad {W W' : World} {g1 B : Nat} {w : World} (hg : W.heap[g1]? = some (.cells #[.string ⟨#[]⟩, .string ⟨#[]⟩] 53 (0, 0))) (hB : B ≤ g1) (hW : ∀ k, (k < w.heap.size ∨ B ≤ k) → k < W.heap.size → W'.heap[k]? = W.heap[k]?) : Bt.HV W' ⟨some ⟨g1, 0, none⟩, 1, Bt.bad⟩ := by
  have hg' := (hW g1 (.inr hB) (blk_lt hg)).trans hg
  refine ⟨Nat.le_refl _, rfl, (by show (1 : Nat) ≤ _; omega), fun _ => ⟨_, rfl, fun j x hj => ?_⟩⟩
  have hj0 : j = 0 := by
    have h2 : j < 1 := (List.getElem?_eq_some_iff.1 hj).1
    omega
  subst hj0
  have hx : x = ⟨⟨#[]⟩, ⟨#[]⟩⟩ := by
    have h2 : Bt.bad.f0[0]? = some ⟨⟨#[]⟩, ⟨#[]⟩⟩ := rfl
    rw [h2] at hj
    injection hj with hj
    exact hj.symm
  refine ⟨[.string ⟨#[]⟩, .string ⟨#[]⟩], rfl, ?_, fun i u hu => ?_⟩
  · rw [hx]
    exact k53_mk W' _
  · rw [add_plain]
    simp only [Nat.zero_mul, Nat.zero_add]
    rw [blk_cell hg']
    simpa using hu
end
section
theorem Bt.heap46 : Kd.Heap k46 := Kd.heap_iso _ (Kd.heap_pair (Kd.heap_slice 53 (Kd.heap_iso _ (Kd.heap_pair Kd.heap_string Kd.heap_string))) (Kd.heap_iso _ (Kd.heap_pair (Kd.heap_int _) (Kd.heap_int _))))
end
end Go.Proofs.Ytcgocdhffcnleaa.PHead

/- A part of the proofs about the head: see the theorems' own lines. -/
namespace Go.Proofs.Ytcgocdhffcnleaa.PHead
open Go Go.RowKit Go.Proofs.YtcgocdhffcnleaaW.PrintWords Go.Proofs.YtcgocdhffcnleaaW.PrintLast Go.Proofs.YtcgocdhffcnleaaW.PrintMore Go.Proofs.Ytcgocdhffcnleaa.XB Go.Proofs.Ytcgocdhffcnleaa.PHeadPlays Go.Proofs.Ytcgocdhffcnleaa.XH
set_option linter.unusedVariables false
set_option linter.unusedSimpArgs false
/-! ### HeadCuts, walked -/
section
def Ct.sm (l : List S68) (i : Nat) : Nat := ((l.take i).map fun y => y.f1.length).sum
theorem Ct.sm_succ (l : List S68) (i : Nat) (h : i < l.length) : Ct.sm l (i + 1) = Ct.sm l i + l[i].f1.length := by
  unfold Ct.sm
  rw [List.take_succ_eq_append_getElem h, List.map_append, List.sum_append]
  simp
theorem Ct.sm_out (L : Hd.A) : Ct.sm (Hd.out L) (Hd.out L).length = Hd.cnt L := by
  unfold Ct.sm
  rw [List.take_length]
  unfold Hd.out Hd.cnt
  rw [List.map_map]
  rfl
theorem Ct.sm_mono (l : List S68) {i j : Nat} (h : i ≤ j) (hj : j ≤ l.length) : Ct.sm l i ≤ Ct.sm l j := by
  induction j with
  | zero => rw [show i = 0 by omega]; exact Nat.le_refl _
  | succ j ih =>
    by_cases he : i = j + 1
    · rw [he]; exact Nat.le_refl _
    · rw [Ct.sm_succ l j (by omega)]
      exact Nat.le_trans (ih (by omega) (by omega)) (by omega)
/-- What a row of series reads as, place by place. -/
theorem Ct.reads {W : World} {A : Option Addr} {l : List S68} (h : Kd.C k68 W A l.length l) (i : Nat) (hi : i < l.length) : ∃ ad A1 c1, A = some ad ∧ W.cell? ⟨(ad.add (i * 2)).block, (ad.add (i * 2)).off + 1, none⟩ = some (.slice A1 l[i].f1.length c1) ∧
    ∀ j (hj : j < l[i].f1.length), ∃ ad1, A1 = some ad1 ∧ W.cell? (ad1.add (j * 2)) = some (.int .i64 l[i].f1[j].f0) := by
  obtain ⟨ad, A0, c0, A1, c1, e, _, h2, _, _, _, h6⟩ := at_T68 h (i : Int) (by omega) (by omega)
  have hrd : rd_T68 l (i : Int) = l[i] := by
    unfold rd_T68
    rw [Int.toNat_natCast, List.getD_eq_getElem?_getD, List.getElem?_eq_getElem hi]; rfl
  rw [hrd, Int.toNat_natCast] at h2
  rw [hrd] at h6
  refine ⟨ad, A1, c1, e, h2, fun j hj => ?_⟩
  obtain ⟨ad1, e1, h7, _⟩ := at_T44 h6 (j : Int) (by omega) (by omega)
  have hrd2 : rd_T44 l[i].f1 (j : Int) = l[i].f1[j] := by
    unfold rd_T44
    rw [Int.toNat_natCast, List.getD_eq_getElem?_getD, List.getElem?_eq_getElem hj]; rfl
  rw [hrd2, Int.toNat_natCast] at h7
  exact ⟨ad1, e1, h7⟩
set_option maxHeartbeats 8000000 in
set_option maxRecDepth 100000 in
theorem count_calls (A : Option Addr) (c : Nat) (l : List S68) (w : World) (hC : Kd.C k68 w A l.length l) (hs : Ct.sm l l.length ≤ 1099511627776) (hl : l.length ≤ 1099511627776) :
    Calls Try.prog 34 #[.slice A l.length c] w fun e w' => e = .returned (.int .i64 (Ct.sm l l.length : Nat)) ∧ w' = w := by
  have HR := Aside0.mk (Ct.reads hC)
  have HSS := Aside0.mk (Ct.sm_succ l)
  have HSM := Aside0.mk (fun i (hi : i ≤ l.length) => Ct.sm_mono l hi (Nat.le_refl _))
  obtain ⟨n, hn⟩ : ∃ n, n = l.length := ⟨_, rfl⟩
  obtain ⟨sm, hsm⟩ : ∃ sm, sm = Ct.sm l := ⟨_, rfl⟩
  have hs0 : sm 0 = 0 := by rw [hsm]; rfl
  have HS0 := Aside0.mk hs0
  rw [← hsm, ← hn] at hs ⊢
  rw [← hsm, ← hn] at HSM
  rw [← hsm] at HSS
  have HN := Aside0.mk hn
  have HS := Aside0.mk hs
  have hn9 : n ≤ 9223372036854775806 := by omega
  clear hC hsm hn hs0 hl hs
  go_enter Try.func34, Try.ntmps34
  go_wp2
  go_loopg [3, 4] n (fun kx v3 v4 wr => ∃ i : Nat, v4 = .int .i64 i ∧ v3 = .int .i64 (sm i : Nat) ∧ i ≤ n ∧ n - i ≤ kx ∧ wr = w)
  case atStart => exact ⟨0, rfl, by rw [HS0.out]; rfl, Nat.zero_le _, Nat.le_refl _, rfl⟩
  case round =>
    obtain ⟨i, rfl, rfl, hi, hix, rfl⟩ := hrel
    by_cases hlt : i < n
    · have hltz : (i : Int) < (n : Int) := by omega
      have hi0 : (0 : Int) ≤ (i : Int) := by omega
      have hil : i < l.length := by rw [← HN.out]; exact hlt
      obtain ⟨ad, A1, c1, rfl, y1, _⟩ := HR.out i hil
      have h1 := HSS.out i hil
      have h2 := HSM.out (i + 1) hlt
      obtain ⟨ln, hln⟩ : ∃ ln, ln = l[i].f1.length := ⟨_, rfl⟩
      rw [← hln] at y1 h1
      have h3 := HS.out
      have hb : sm i + ln ≤ 1099511627776 := by omega
      have H1 := Aside0.mk h1
      clear hln h1 h2 h3
      go_wp2
      go_roundg (n - (i + 1))
      case measure => omega
      case rel => exact ⟨i + 1, by go_num, by rw [H1.out]; go_num, hlt, Nat.le_refl _, rfl⟩
    · have hin : n = i := by omega
      subst hin
      go_wp2
      go_ret
      exact ⟨rfl, rfl⟩
end
section
set_option maxHeartbeats 8000000 in
set_option maxRecDepth 100000 in
theorem HeadCuts.calls (A : Option Addr) (c : Nat) (l : List S46) (low : Int) (w : World) (hC : Kd.C k46 w A l.length l) (hc : l.length ≤ c) (hn : l.length ≤ 1152921504606846976) (hm : ∀ y ∈ l, y.f0.length ≤ 1152921504606846976) :
    Calls Try.prog 8 #[.slice A l.length c, .int .i64 low] w fun e w' => e = .returned (.bool true) ∧ Below w.heap.size w w' := by
  have HNUM := Aside0.mk num_calls
  have HAL := Aside0.mk head_alive.calls
  have HC := Aside0.mk hC
  have HCC := Aside0.mk hc
  obtain ⟨n, hln⟩ : ∃ n, n = l.length := ⟨_, rfl⟩
  have hn9 : n ≤ 9223372036854775807 := by omega
  have HBIG := Aside0.mk (fun W (hb : Below w.heap.size w W) => Bt.bigRows A c l W (Kd.C_below hC hb) hc hn hm)
  have HLN := Aside0.mk hln
  rw [← hln] at HBIG ⊢
  clear hC hc hn hm hln
  go_enter Try.func8, Try.ntmps8
  go_upto_region 2 with (go_at_call 21; (with_reducible refine (HAL.out _).mono ?_); rintro e W0 ⟨rfl, hb0⟩; have HB0 := Aside0.mk hb0; clear hb0)
  obtain ⟨b, hbig⟩ := HBIG.out W0 HB0.out
  have HBG := Aside0.mk hbig
  clear hbig HBIG
  go_upto_region 3 with (go_at_call 29; (with_reducible refine HBG.out.mono ?_); rintro e W1 ⟨rfl, hb1⟩; have HB1 := Aside0.mk (below_step HB0.out hb1); clear hb1)
  cases b with
  | true =>
    go_wp2
    go_ret
    exact ⟨rfl, HB1.out⟩
  | false =>
    by_cases h1 : (n : Int) > 200
    · go_wp2
      go_ret
      exact ⟨rfl, HB1.out⟩
    have HN200 := Aside0.mk (show n ≤ 200 by omega)
    have HNEW := Aside0.mk (head_New.calls 9007199254740992)
    rw [show min (max (0 : Int) 9007199254740992) 9007199254740992 = 9007199254740992 by decide] at HNEW
    go_upto_region 6 with (go_at_call 22; (with_reducible refine (HNEW.out _).mono ?_); rintro e W2 ⟨hb, mb, rfl, hh, hbb⟩; have HH2 := Aside0.mk hh; have HB2 := Aside0.mk (below_step HB1.out hbb); clear hh hbb)
    obtain ⟨e2, L, hwl⟩ : ∃ e2 L, Hd.writeF 9007199254740992 [] l = (e2, L) := ⟨_, _, rfl⟩
    have hs1 : w.heap.size ≤ W1.heap.size := HB1.out.size
    have hwb := head_Write.calls A c l W2 HH2.out _ (Kd.F_below (Kd.C_F Bt.heap46 HC.out) HB2.out) (fun k hk _ ho => by have := (HH2.out.lt k ho).1; omega) HCC.out (by show 0 + 200 ≤ _; omega)
    rw [show Hd.abs ([] : List Hd.Ent) = [] from rfl, hwl, ← HLN.out] at hwb
    have HWB := Aside0.mk hwb
    have HWL := Aside0.mk hwl
    have HS1 := Aside0.mk hs1
    clear hwb hwl hs1
    go_upto_region 7 with (go_at_call 23; (with_reducible refine HWB.out.mono ?_); rintro e W3 ⟨rfl, S, hh, ha, hf⟩; have HH3 := Aside0.mk hh; have HA3 := Aside0.mk ha; have HF3 := Aside0.mk hf; clear hh ha hf)
    have HB3 := Aside0.mk (Below.trans HB2.out (HF3.out.below (fun k hk => Nat.le_trans HS1.out (HH2.out.lt k hk).1) HB2.out.size))
    by_cases he2 : e2 = 0
    · subst he2
      have hct : Hd.cnt (Hd.abs S) ≤ 200 := by
        obtain ⟨hask, hl200⟩ := Bt.taken (show (Hd.writeF 9007199254740992 [] l).1 = 0 by rw [HWL.out])
        rw [HWL.out] at hask
        have h1 := (Bt.cnt_ask HH2.out.ok hask).2
        have h3 : Hd.cnt (Hd.abs ([] : List Hd.Ent)) = 0 := rfl
        rw [HA3.out]
        dsimp only at h1
        omega
      have HCT := Aside0.mk hct
      have HCUT := Aside0.mk (fun W (hb' : Below W3.heap.size W3 W) => head_Cut.calls (HH3.out.below hb') (by omega) low)
      clear hct HWB
      go_upto_region 9 with (go_at_call 25; (with_reducible refine (HNUM.out _ W3).mono ?_); rintro e W4 ⟨rfl, hb⟩; have HB4 := Aside0.mk hb; clear hb)
      have HCN := Aside0.mk (head_Count.calls (HH3.out.below HB4.out))
      obtain ⟨nc, hnc⟩ : ∃ nc : Nat, nc = Hd.cnt (Hd.abs S) := ⟨_, rfl⟩
      rw [← hnc] at HCN
      have HNC := Aside0.mk hnc
      clear hnc
      go_upto_region 10 with (go_at_call 30; (with_reducible refine HCN.out.mono ?_); rintro e W5 ⟨rfl, rfl⟩)
      obtain ⟨g, hg⟩ : ∃ g, g = Hd.out (Hd.cutG low (Hd.abs S)) := ⟨_, rfl⟩
      have hgl : (Hd.cutG low (Hd.abs S)).length = g.length := by rw [hg]; unfold Hd.out; rw [List.length_map]
      rw [← hg, hgl] at HCUT
      have HG := Aside0.mk hg
      obtain ⟨ng, hng⟩ : ∃ ng, ng = g.length := ⟨_, rfl⟩
      rw [← hng] at HCUT
      have HNG := Aside0.mk hng
      clear hg hgl hng
      go_upto_region 11 with (go_at_call 33; (with_reducible refine (HCUT.out _ HB4.out).mono ?_); rintro e W6 ⟨A6, c6, S6, rfl, hr, hh, ha, hf⟩; have HR6 := Aside0.mk hr; have HH6 := Aside0.mk hh; have HA6 := Aside0.mk ha; have HF6 := Aside0.mk hf; clear hr hh ha hf)
      have HB6 := Aside0.mk (Below.trans (below_step HB3.out HB4.out) (HF6.out.below (fun k hk => Nat.le_trans HS1.out ((HH3.out.below HB4.out).lt k hk).1) (below_step HB3.out HB4.out).size))
      have hcs : Hd.cnt (Hd.abs S6) ≤ 200 := by
        have h1 := Hd.cnt_cut low (Hd.abs S)
        have := HCT.out
        rw [HA6.out]
        omega
      have hall := head_All.calls HH6.out (by omega)
      obtain ⟨s, hs⟩ : ∃ s, s = Hd.out (Hd.abs S6) := ⟨_, rfl⟩
      have hsl : (Hd.abs S6).length = s.length := by rw [hs]; unfold Hd.out; rw [List.length_map]
      rw [← hs, hsl] at hall
      have HALL := Aside0.mk hall
      have HSO := Aside0.mk hs
      obtain ⟨ns, hns⟩ : ∃ ns, ns = s.length := ⟨_, rfl⟩
      rw [← hns] at HALL
      have HNS := Aside0.mk hns
      clear hcs hall hs hsl hns HCUT HCN
      go_upto_region 12 with (go_at_call 31; (with_reducible refine HALL.out.mono ?_); rintro e W7 ⟨A7, c7, rfl, hr, hb⟩; have HR7 := Aside0.mk hr; have HB67 := Aside0.mk hb; clear hr hb)
      have HRG := Aside0.mk (Ct.reads (Kd.R_reads' (Kd.R_below HR6.out HB67.out)).2.2)
      have HRS := Aside0.mk (Ct.reads (Kd.R_reads' HR7.out).2.2)
      have HLOW := Aside0.mk (show ∀ i (hi : i < g.length), ∀ j (hj : j < g[i].f1.length), g[i].f1[j].f0 < low from fun i hi j hj => by
        have h1 := List.getElem_mem hi
        have h2 : g[i] ∈ Hd.out (Hd.cutG low (Hd.abs S)) := by rw [← HG.out]; exact h1
        obtain ⟨q, hq, h3⟩ := List.mem_map.1 h2
        refine Hd.cutG_low hq _ ?_
        have h4 : q.2 = g[i].f1 := by rw [← h3]
        rw [h4]
        exact List.getElem_mem hj)
      have HHIGH := Aside0.mk (show ∀ i (hi : i < s.length), ∀ j (hj : j < s[i].f1.length), ¬ s[i].f1[j].f0 < low from fun i hi j hj => by
        have h1 := List.getElem_mem hi
        have h2 : s[i] ∈ Hd.out (Hd.cutS low (Hd.abs S)) := by rw [← HA6.out, ← HSO.out]; exact h1
        obtain ⟨q, hq, h3⟩ := List.mem_map.1 h2
        refine Hd.cutS_high HH3.out.ok hq _ ?_
        have h4 : q.2 = s[i].f1 := by rw [← h3]
        rw [h4]
        exact List.getElem_mem hj)
      have hsg : Ct.sm g g.length = Hd.cnt (Hd.cutG low (Hd.abs S)) := by rw [HG.out]; exact Ct.sm_out _
      have hss : Ct.sm s s.length = Hd.cnt (Hd.cutS low (Hd.abs S)) := by rw [HSO.out, Ct.sm_out, HA6.out]
      have HSUM := Aside0.mk (show Ct.sm g ng + Ct.sm s ns = nc from by
        have h1 := Hd.cnt_cut low (Hd.abs S)
        rw [HNG.out, HNS.out, hsg, hss, HNC.out]
        omega)
      have HNC2 := Aside0.mk (show nc ≤ 200 by rw [HNC.out]; exact HCT.out)
      have HGS := Aside0.mk (Ct.sm_succ g)
      have HSS := Aside0.mk (Ct.sm_succ s)
      have HGM := Aside0.mk (fun i (hi : i ≤ ng) => Ct.sm_mono g hi (by rw [HNG.out]; exact Nat.le_refl _))
      have HSM := Aside0.mk (fun i (hi : i ≤ ns) => Ct.sm_mono s hi (by rw [HNS.out]; exact Nat.le_refl _))
      have HG0 := Aside0.mk (show Ct.sm g 0 = 0 from rfl)
      have HS0 := Aside0.mk (show Ct.sm s 0 = 0 from rfl)
      have hng9 : ng ≤ 1000 := by
        have h1 := HH3.out.ok.len
        have h2 : g.length = (Hd.cutG low (Hd.abs S)).length := by rw [HG.out]; unfold Hd.out; rw [List.length_map]
        rw [HNG.out, h2]
        exact Nat.le_trans (List.length_filterMap_le _ _) h1
      have hns9 : ns ≤ 1000 := by
        have h1 := HH6.out.ok.len
        have h2 : s.length = (Hd.abs S6).length := by rw [HSO.out]; unfold Hd.out; rw [List.length_map]
        rw [HNS.out, h2]
        exact h1
      have HCNT := Aside0.mk (head_Count.calls (HH6.out.below HB67.out))
      have HCNG := Aside0.mk (count_calls A6 c6 g W7 (Kd.R_reads' (Kd.R_below HR6.out HB67.out)).2.2 (by have := HSUM.out; have := HNC2.out; rw [← HNG.out]; omega) (by rw [← HNG.out]; omega))
      rw [← HNG.out] at HCNG
      have HB7 := Aside0.mk (below_step HB6.out HB67.out)
      rw [show Hd.cnt (Hd.abs S6) = Ct.sm s ns by rw [HNS.out, hss, HA6.out]] at HCNT
      obtain ⟨gm, hgm⟩ : ∃ gm, gm = Ct.sm g := ⟨_, rfl⟩
      obtain ⟨sm, hsm⟩ : ∃ sm, sm = Ct.sm s := ⟨_, rfl⟩
      rw [← hgm] at HGS HGM HG0 HCNG HSUM
      rw [← hsm] at HSS HSM HS0 HCNT HSUM
      have hns200 : gm ng ≤ 200 ∧ sm ns ≤ 200 := by have := HSUM.out; have := HNC2.out; omega
      clear hsg hss hgm hsm HALL HR6 HR7 HF6 HF3 HH6 HH3 HH2 HA6 HA3 HG HSO HCT HNC HWL
      go_wp2
      go_loopg [12, 13] ng (fun kx v12 v13 wr => ∃ i : Nat, v13 = .int .i64 i ∧ v12 = .int .i64 (gm i : Nat) ∧ i ≤ ng ∧ ng - i ≤ kx ∧ W7 = wr)
      case atStart => exact ⟨0, rfl, by rw [HG0.out]; rfl, Nat.zero_le _, Nat.le_refl _, rfl⟩
      case round =>
        obtain ⟨i, rfl, rfl, hi, hix, rfl⟩ := hrel
        by_cases hlt : i < ng
        · have hltz : (i : Int) < (ng : Int) := by omega
          have hi0 : (0 : Int) ≤ (i : Int) := by omega
          have hil : i < g.length := by rw [← HNG.out]; exact hlt
          obtain ⟨ad, A1, c1, rfl, y1, hsam⟩ := HRG.out i hil
          have h1 := HGS.out i hil
          have h2 := HGM.out (i + 1) hlt
          have hlow := HLOW.out i hil
          obtain ⟨ln, hln⟩ : ∃ ln, ln = g[i].f1.length := ⟨_, rfl⟩
          rw [← hln] at y1 h1
          have hb : gm i + ln ≤ 200 := by omega
          have H1 := Aside0.mk h1
          have HT := Aside0.mk (show ∀ j, j < ln → ∃ ad1 t, A1 = some ad1 ∧ W7.cell? (ad1.add (j * 2)) = some (.int .i64 t) ∧ t < low from fun j hj => by
            obtain ⟨ad1, e1, h3⟩ := hsam j (by rw [← hln]; exact hj)
            exact ⟨ad1, _, e1, h3, hlow j (by rw [← hln]; exact hj)⟩)
          clear hln h1 h2 hsam hlow
          go_wp2
          go_loopg [12, 14] ln (fun kx v12 v14 wr => ∃ j : Nat, v14 = .int .i64 j ∧ v12 = .int .i64 ((gm i + j : Nat) : Int) ∧ j ≤ ln ∧ ln - j ≤ kx ∧ W7 = wr)
          case atStart => exact ⟨0, rfl, rfl, Nat.zero_le _, Nat.le_refl _, rfl⟩
          case round =>
            obtain ⟨j, rfl, rfl, hj, hjx, rfl⟩ := hrel
            by_cases hjl : j < ln
            · have hjz : (j : Int) < (ln : Int) := by omega
              have hj0 : (0 : Int) ≤ (j : Int) := by omega
              obtain ⟨ad1, t, rfl, y2, ht⟩ := HT.out j hjl
              have ht2 : ¬ t ≥ low := by omega
              obtain ⟨gj, hgj⟩ : ∃ gj, gj = gm i + j := ⟨_, rfl⟩
              have hgb : gj ≤ 200 := by omega
              have hj9 : j ≤ 1000 := by omega
              rw [← hgj]
              go_wp2
              go_roundg (ln - (j + 1))
              case measure => omega
              case rel => exact ⟨j + 1, by go_num, by rw [← Nat.add_assoc, ← hgj]; go_num, hjl, Nat.le_refl _, rfl⟩
            · have hjn : ln = j := by omega
              subst hjn
              rw [← H1.out]
              go_wp2
              go_roundg (ng - (i + 1))
              case measure => omega
              case rel => exact ⟨i + 1, by go_num, rfl, hlt, Nat.le_refl _, rfl⟩
        · have hin : ng = i := by omega
          subst hin
          clear hlt hi hix
          obtain ⟨g0, hg0⟩ : ∃ g0, g0 = gm ng := ⟨_, rfl⟩
          rw [← hg0] at HSUM HCNG hns200 ⊢
          go_wp2
          go_loopg [12, 15] ns (fun kx v12 v15 wr => ∃ i : Nat, v15 = .int .i64 i ∧ v12 = .int .i64 ((g0 + sm i : Nat) : Int) ∧ i ≤ ns ∧ ns - i ≤ kx ∧ W7 = wr)
          case atStart => exact ⟨0, rfl, by rw [HS0.out]; rfl, Nat.zero_le _, Nat.le_refl _, rfl⟩
          case round =>
            obtain ⟨i, rfl, rfl, hi, hix, rfl⟩ := hrel
            by_cases hlt : i < ns
            · have hltz : (i : Int) < (ns : Int) := by omega
              have hi0 : (0 : Int) ≤ (i : Int) := by omega
              have hil : i < s.length := by rw [← HNS.out]; exact hlt
              obtain ⟨ad, A1, c1, rfl, y1, hsam⟩ := HRS.out i hil
              have h1 := HSS.out i hil
              have h2 := HSM.out (i + 1) hlt
              have hhigh := HHIGH.out i hil
              obtain ⟨ln, hln⟩ : ∃ ln, ln = s[i].f1.length := ⟨_, rfl⟩
              rw [← hln] at y1 h1
              have hb : sm i + ln ≤ 200 := by omega
              have H1 := Aside0.mk h1
              have HT := Aside0.mk (show ∀ j, j < ln → ∃ ad1 t, A1 = some ad1 ∧ W7.cell? (ad1.add (j * 2)) = some (.int .i64 t) ∧ ¬ t < low from fun j hj => by
                obtain ⟨ad1, e1, h3⟩ := hsam j (by rw [← hln]; exact hj)
                exact ⟨ad1, _, e1, h3, by have := hhigh j (by rw [← hln]; exact hj); omega⟩)
              obtain ⟨gi, hgi⟩ : ∃ gi, gi = g0 + sm i := ⟨_, rfl⟩
              have HGI := Aside0.mk hgi
              have hgi2 : gi + ln ≤ 400 := by omega
              rw [← hgi]
              clear hln h1 h2 hsam hhigh hgi
              go_wp2
              go_loopg [12, 16] ln (fun kx v12 v16 wr => ∃ j : Nat, v16 = .int .i64 j ∧ v12 = .int .i64 ((gi + j : Nat) : Int) ∧ j ≤ ln ∧ ln - j ≤ kx ∧ W7 = wr)
              case atStart => exact ⟨0, rfl, rfl, Nat.zero_le _, Nat.le_refl _, rfl⟩
              case round =>
                obtain ⟨j, rfl, rfl, hj, hjx, rfl⟩ := hrel
                by_cases hjl : j < ln
                · have hjz : (j : Int) < (ln : Int) := by omega
                  have hj0 : (0 : Int) ≤ (j : Int) := by omega
                  obtain ⟨ad1, t, rfl, y2, ht⟩ := HT.out j hjl
                  obtain ⟨gj, hgj⟩ : ∃ gj, gj = gi + j := ⟨_, rfl⟩
                  have hgb : gj ≤ 400 := by omega
                  have hj9 : j ≤ 1000 := by omega
                  rw [← hgj]
                  go_wp2
                  go_roundg (ln - (j + 1))
                  case measure => omega
                  case rel => exact ⟨j + 1, by go_num, by rw [← Nat.add_assoc, ← hgj]; go_num, hjl, Nat.le_refl _, rfl⟩
                · have hjn : ln = j := by omega
                  subst hjn
                  rw [show gi + ln = g0 + sm (i + 1) by rw [H1.out, HGI.out]; omega]
                  go_wp2
                  go_roundg (ns - (i + 1))
                  case measure => omega
                  case rel => exact ⟨i + 1, by go_num, rfl, hlt, Nat.le_refl _, rfl⟩
            · have hin : ns = i := by omega
              subst hin
              clear hlt hi hix
              rw [HSUM.out]
              obtain ⟨s0, hs0⟩ : ∃ s0, s0 = sm ns := ⟨_, rfl⟩
              rw [← hs0] at HSUM HCNT hns200
              have hsum := HSUM.out
              have hw1 : IntKind.i64.wrap ((nc : Int) - (g0 : Int)) = (s0 : Int) := by rw [IntKind.wrap_i64]; omega
              clear hs0
              go_wp2_with (first
                | (go_at_call 30; (with_reducible refine HCNT.out.mono ?_); rintro e W8 ⟨rfl, rfl⟩)
                | (go_at_call 34; (with_reducible refine HCNG.out.mono ?_); rintro e W9 ⟨rfl, rfl⟩))
              go_ret
              exact ⟨by simp; omega, HB7.out⟩
    · have hz2 : (e2 != 0) = true := bne_iff_ne.2 he2
      clear HWB
      go_wp2_with (go_at_call 25; (with_reducible refine (HNUM.out _ W3).mono ?_); rintro e W9 ⟨rfl, hb⟩; have HB9 := Aside0.mk hb; clear hb)
      go_ret
      exact ⟨rfl, below_step HB3.out HB9.out⟩
end
end Go.Proofs.Ytcgocdhffcnleaa.PHead
