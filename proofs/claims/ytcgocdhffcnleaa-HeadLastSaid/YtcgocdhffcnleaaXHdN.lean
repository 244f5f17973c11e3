/- A part of the proofs about the head: see the theorems' own lines. -/
import Derived.Test.YtcgocdhffcnleaaXHdM
import Derived.Lib.Overlaps
import Derived.Laws.CopyOwn
import Derived.Laws.IdiomCopy
import Derived.Lib.AppendZeros
import Derived.StillTailTactics
import Derived.Outline
namespace Go.Proofs.Ytcgocdhffcnleaa.PHead
open Go Go.RowKit Go.Proofs.YtcgocdhffcnleaaW.PrintWords Go.Proofs.YtcgocdhffcnleaaW.PrintLast Go.Proofs.YtcgocdhffcnleaaW.PrintMore Go.Proofs.Ytcgocdhffcnleaa.XB Go.Proofs.Ytcgocdhffcnleaa.PHeadPlays Go.Proofs.Ytcgocdhffcnleaa.XH
set_option linter.unusedVariables false
set_option linter.unusedSimpArgs false
/-! ### a series set in the head -/
namespace Hd
open Go.Maps
def setE : List Ent → Ent → List Ent
  | [], e => [e]
  | a :: S, e => if lcl a.ls e.ls = 0 then e :: S else if lcl e.ls a.ls < 0 then e :: a :: S else a :: setE S e
theorem abs_setE : ∀ (S : List Ent) (e : Ent), abs (setE S e) = setA (abs S) e.ls e.xs
  | [], e => rfl
  | a :: S, e => by
    show abs (if lcl a.ls e.ls = 0 then e :: S else if lcl e.ls a.ls < 0 then e :: a :: S else a :: setE S e) = (if lcl a.ls e.ls = 0 then (e.ls, e.xs) :: abs S else if lcl e.ls a.ls < 0 then (e.ls, e.xs) :: (a.ls, a.xs) :: abs S else (a.ls, a.xs) :: setA (abs S) e.ls e.xs)
    split
    · rfl
    · split
      · rfl
      · show (a.ls, a.xs) :: abs (setE S e) = _
        rw [abs_setE S e]
theorem setE_self : ∀ (S : List Ent) (e : Ent), e ∈ setE S e
  | [], e => List.mem_cons_self
  | a :: S, e => by
    rw [setE]
    split
    · exact List.mem_cons_self
    · split
      · exact List.mem_cons_self
      · exact List.mem_cons_of_mem _ (setE_self S e)
def esorted (S : List Ent) : Prop := S.Pairwise fun a b => lcl a.ls b.ls < 0
theorem esorted_of {S : List Ent} (h : sorted (abs S)) : esorted S := by
  unfold sorted abs at h
  rw [List.pairwise_map] at h
  exact h
theorem setE_mem {S : List Ent} (hs : esorted S) {e x : Ent} (h : x ∈ setE S e) : x = e ∨ (x ∈ S ∧ x.ls ≠ e.ls) := by
  induction S with
  | nil => left; simpa [setE] using h
  | cons a S ih =>
    obtain ⟨h1, h2⟩ := List.pairwise_cons.1 hs
    rw [setE] at h
    split at h
    · rename_i h3
      have he := lcl_zero.1 h3
      rcases List.mem_cons.1 h with h | h
      · exact .inl h
      · refine .inr ⟨List.mem_cons_of_mem _ h, fun e2 => ?_⟩
        have := h1 x h
        rw [he, e2, lcl_self] at this
        omega
    · rename_i h3
      split at h
      · rename_i h4
        rcases List.mem_cons.1 h with h | h
        · exact .inl h
        · refine .inr ⟨h, fun e2 => ?_⟩
          rcases List.mem_cons.1 h with rfl | h
          · exact h3 (by rw [e2, lcl_self])
          · have := lcl_tr h4 (h1 x h)
            rw [e2, lcl_self] at this
            omega
      · rename_i h4
        rcases List.mem_cons.1 h with rfl | h
        · exact .inr ⟨List.mem_cons_self, fun e2 => h3 (by rw [e2, lcl_self])⟩
        · rcases ih h2 h with h | ⟨h, h5⟩
          · exact .inl h
          · exact .inr ⟨List.mem_cons_of_mem _ h, h5⟩
theorem setE_old {S : List Ent} {e x : Ent} (h : x ∈ S) (hne : x.ls ≠ e.ls) : x ∈ setE S e := by
  induction S with
  | nil => cases h
  | cons a S ih =>
    rw [setE]
    split
    · rename_i h3
      rcases List.mem_cons.1 h with rfl | h
      · exact absurd (lcl_zero.1 h3) hne
      · exact List.mem_cons_of_mem _ h
    · split
      · exact List.mem_cons_of_mem _ h
      · rcases List.mem_cons.1 h with rfl | h
        · exact List.mem_cons_self
        · exact List.mem_cons_of_mem _ (ih h)
theorem setE_pair {R : Ent → Ent → Prop} (hsym : ∀ a b, R a b → R b a) {S : List Ent} (hs : esorted S) {e : Ent} (h : S.Pairwise R) (he : ∀ x ∈ S, x.ls ≠ e.ls → R x e) : (setE S e).Pairwise R := by
  induction S with
  | nil => exact List.pairwise_singleton _ _
  | cons a S ih =>
    obtain ⟨h1, h2⟩ := List.pairwise_cons.1 h
    obtain ⟨k1, k2⟩ := List.pairwise_cons.1 hs
    have hne : ∀ x ∈ S, lcl a.ls e.ls = 0 → x.ls ≠ e.ls := fun x hx h3 e2 => by
      have := k1 x hx
      rw [lcl_zero.1 h3, e2, lcl_self] at this
      omega
    rw [setE]
    split
    · rename_i h3
      exact List.pairwise_cons.2 ⟨fun x hx => hsym _ _ (he x (List.mem_cons_of_mem _ hx) (hne x hx h3)), h2⟩
    · rename_i h3
      split
      · rename_i h4
        refine List.pairwise_cons.2 ⟨fun x hx => hsym _ _ (he x hx (fun e2 => ?_)), h⟩
        rcases List.mem_cons.1 hx with rfl | hx
        · exact h3 (by rw [e2, lcl_self])
        · have := lcl_tr h4 (k1 x hx)
          rw [e2, lcl_self] at this
          omega
      · rename_i h4
        refine List.pairwise_cons.2 ⟨fun x hx => ?_, ih k2 h2 (fun x hx => he x (List.mem_cons_of_mem _ hx))⟩
        rcases setE_mem k2 hx with rfl | ⟨hx, _⟩
        · exact he a List.mem_cons_self (fun e2 => h3 (by rw [e2, lcl_self]))
        · exact h1 x hx
theorem setE_len {S : List Ent} (hs : sorted (abs S)) (e : Ent) : (setE S e).length = if find (abs S) e.ls = none then S.length + 1 else S.length := by
  have h := setA_len (m := e.ls) (xs := e.xs) hs
  rw [← abs_setE] at h
  unfold abs at h ⊢
  rw [List.length_map, List.length_map] at h
  exact h
theorem ent_inj {S : List Ent} (hs : esorted S) {a b : Ent} (ha : a ∈ S) (hb : b ∈ S) (h : a.ls = b.ls) : a = b := by
  induction S with
  | nil => cases ha
  | cons c S ih =>
    obtain ⟨h1, h2⟩ := List.pairwise_cons.1 hs
    rcases List.mem_cons.1 ha with a1 | a1
    · rcases List.mem_cons.1 hb with b1 | b1
      · rw [a1, b1]
      · have := h1 b b1
        rw [← a1, h, lcl_self] at this
        omega
    · rcases List.mem_cons.1 hb with b1 | b1
      · have := h1 a a1
        rw [← b1, h, lcl_self] at this
        omega
      · exact ih h2 a1 b1
theorem pair_of {α : Type} {R : α → α → Prop} (hsym : ∀ a b, R a b → R b a) : ∀ {S : List α}, S.Pairwise R → ∀ {x y : α}, x ∈ S → y ∈ S → x ≠ y → R x y
  | [], _, _, _, hx, _, _ => by cases hx
  | c :: S, hp, x, y, hx, hy, hne => by
    obtain ⟨p1, p2⟩ := List.pairwise_cons.1 hp
    rcases List.mem_cons.1 hx with h1 | h1
    · rcases List.mem_cons.1 hy with h2 | h2
      · exact absurd (h1.trans h2.symm) hne
      · rw [h1]; exact p1 y h2
    · rcases List.mem_cons.1 hy with h2 | h2
      · rw [h2]; exact hsym _ _ (p1 x h1)
      · exact pair_of hsym p2 h1 h2 hne
def apartR (a b : Ent) : Prop := a.g ≠ b.g ∧ ∀ k, a.sv.ownBlock = some k → b.sv.ownBlock ≠ some k
theorem apart_sym (a b : Ent) (h : apartR a b) : apartR b a := ⟨Ne.symm h.1, fun k hb ha => h.2 k ha hb⟩
theorem find_ent_some {S : List Ent} (hs : sorted (abs S)) {e : Ent} (h : e ∈ S) : find (abs S) e.ls = some e.xs :=
  find_of_mem (p := (e.ls, e.xs)) hs (List.mem_map_of_mem h)
/-- What types an entry's blocks have. -/
theorem EntOk.lv_type {base : Nat} {W : World} {e : Ent} (h : EntOk base W e) {k : Nat} (hk : e.lv.ownBlock = some k) : ∃ cs, W.heap[k]? = some (.cells cs 53 (0, 0)) := by
  obtain ⟨inner, ho⟩ := Kd.R_own h.lab
  exact own_typed ho k hk
theorem EntOk.sv_type {base : Nat} {W : World} {e : Ent} (h : EntOk base W e) {k : Nat} (hk : e.sv.ownBlock = some k) : ∃ cs, W.heap[k]? = some (.cells cs 44 (0, 0)) := by
  obtain ⟨inner, ho⟩ := Kd.R_own h.sam
  exact own_typed ho k hk
theorem type_ne {W : World} {k t t' : Nat} {cs cs' : Array Value} (h : W.heap[k]? = some (.cells cs t (0, 0))) (h' : W.heap[k]? = some (.cells cs' t' (0, 0))) : t = t' := by
  rw [h] at h'
  injection h' with h'
  injection h'
/-- A series that is there has other samples now. -/
theorem HR.update {base hb mb : Nat} {win : Int} {S : List Ent} {W W' : World} (h : HR base hb mb win S W) {e : Ent} (he : e ∈ S) {xs' : List S44} {sv' : Value}
    (hg : W'.heap[e.g]? = some (.cells #[e.lv, sv'] 120 (0, 0))) (hsv : k44.R 44 W' base (fun _ => True) sv' xs')
    (hat : sv'.ownBlock = e.sv.ownBlock ∨ ∃ b, sv'.ownBlock = some b ∧ W.heap.size ≤ b)
    (hhd : W'.heap[hb]? = some (.cells #[.int .i64 win, .map (some mb), .int .i64 (cnt (setA (abs S) e.ls xs') : Nat)] 115 (0, 0)))
    (hk : ∀ k, Own hb mb S k → k ≠ e.g → k ≠ hb → e.sv.ownBlock ≠ some k → W'.heap[k]? = W.heap[k]?) (hok : Ok (setA (abs S) e.ls xs')) :
    HR base hb mb win (setE S ⟨e.ls, xs', e.g, e.lv, sv'⟩) W' := by
  have hes := esorted_of h.ok.sorted
  have hee := h.ent e he
  have habs : abs (setE S ⟨e.ls, xs', e.g, e.lv, sv'⟩) = setA (abs S) e.ls xs' := abs_setE S _
  have hother : ∀ x ∈ S, x.ls ≠ e.ls → EntOk base W' x := by
    intro x hx hne
    have hxe := h.ent x hx
    have hap : apartR x e := pair_of apart_sym h.apart hx he (fun e2 => hne (by rw [e2]))
    refine hxe.move (fun k hkk => hk k (.inr (.inr ⟨x, hx, hkk⟩)) ?_ ?_ ?_)
    · rintro rfl
      rcases hkk with h1 | h1 | h1
      · exact hap.1 h1.symm
      · obtain ⟨cs, h2⟩ := hxe.lv_type h1
        exact absurd (type_ne hee.blk h2) (by decide)
      · obtain ⟨cs, h2⟩ := hxe.sv_type h1
        exact absurd (type_ne hee.blk h2) (by decide)
    · rintro rfl
      rcases hkk with h1 | h1 | h1
      · have := hxe.blk
        rw [← h1] at this
        exact absurd (type_ne h.head this) (by decide)
      · obtain ⟨cs, h2⟩ := hxe.lv_type h1
        exact absurd (type_ne h.head h2) (by decide)
      · obtain ⟨cs, h2⟩ := hxe.sv_type h1
        exact absurd (type_ne h.head h2) (by decide)
    · intro hs
      obtain ⟨cs, h3⟩ := hee.sv_type hs
      rcases hkk with h1 | h1 | h1
      · have := hxe.blk
        rw [← h1] at this
        exact absurd (type_ne h3 this) (by decide)
      · obtain ⟨cs, h2⟩ := hxe.lv_type h1
        exact absurd (type_ne h3 h2) (by decide)
      · exact hap.2 k h1 hs
  have hlab : k53.R 53 W' base (fun _ => True) e.lv e.ls := R53_move hee.lab (fun k h1 => hk k (.inr (.inr ⟨e, he, .inr (.inl h1)⟩)) (by
      rintro rfl
      obtain ⟨cs, h2⟩ := hee.lv_type h1
      exact absurd (type_ne hee.blk h2) (by decide)) (by
      rintro rfl
      obtain ⟨cs, h2⟩ := hee.lv_type h1
      exact absurd (type_ne h.head h2) (by decide)) (by
      intro hs
      obtain ⟨cs, h2⟩ := hee.lv_type h1
      obtain ⟨cs', h3⟩ := hee.sv_type hs
      exact absurd (type_ne h3 h2) (by decide)))
  refine ⟨h.lo, h.wok, by rw [habs]; exact hhd, ?_, fun x hx => ?_, ?_, by rw [habs]; exact hok⟩
  · obtain ⟨D, hm, hD⟩ := h.map
    have hmb : W'.heap[mb]? = W.heap[mb]? := by
      obtain ⟨es, ck, hb1, _⟩ := hm
      refine hk mb (.inr (.inl rfl)) ?_ ?_ ?_
      · rintro rfl
        have := hee.blk
        rw [hb1] at this
        cases this
      · rintro rfl
        have := h.head
        rw [hb1] at this
        cases this
      · intro hs
        obtain ⟨cs', h3⟩ := hee.sv_type hs
        rw [hb1] at h3
        cases h3
    have hlen : (setE S ⟨e.ls, xs', e.g, e.lv, sv'⟩).length = S.length := by
      rw [setE_len h.ok.sorted, find_ent_some h.ok.sorted he, if_neg (by simp)]
    refine ⟨D, ?_, ⟨fun x hx => ?_, by rw [hlen]; exact hD.size, fun kl hkl => ?_⟩⟩
    · obtain ⟨es, ck, hb1, r⟩ := hm
      rw [hlen]
      exact ⟨es, ck, hmb.trans hb1, r⟩
    · rcases setE_mem hes hx with rfl | ⟨hx, _⟩
      · exact hD.hit e he
      · exact hD.hit x hx
    · obtain ⟨x, hx, hxk⟩ := hD.keys kl hkl
      by_cases hne : x.ls = e.ls
      · exact ⟨_, setE_self S _, by rw [hxk, hne]⟩
      · exact ⟨x, setE_old hx hne, hxk⟩
  · rcases setE_mem hes hx with rfl | ⟨hx, hne⟩
    · exact ⟨hee.lo, hg, hlab, hsv⟩
    · exact hother x hx hne
  · refine setE_pair (fun a b h => ⟨Ne.symm h.1, fun k hb ha => h.2 k ha hb⟩) hes h.apart (fun x hx hne => ?_)
    have hxe := h.ent x hx
    have hap : apartR x e := pair_of apart_sym h.apart hx he (fun e2 => hne (by rw [e2]))
    refine ⟨hap.1, fun k hk1 hk2 => ?_⟩
    rcases hat with h1 | ⟨b, h1, h2⟩
    · rw [h1] at hk2
      exact hap.2 k hk1 hk2
    · have hk2' : some b = some k := h1.symm.trans hk2
      injection hk2' with hk2'
      have := (hxe.lt k (.inr (.inr hk1))).2
      omega
theorem MapIs.put {D : DataW Unit} {S : List Ent} (h : MapIs D S) (hs : sorted (abs S)) (hmd : ∀ x ∈ S, Hl.made x.ls) (ht : Maps.Tidy D) {e : Ent} (hm : Hl.made e.ls) (hf : find (abs S) e.ls = none) : MapIs (D.put (key e.ls) (.lit (.int .i64 e.g))) (setE S e) := by
  have hes := esorted_of hs
  have hne : ∀ x ∈ S, key x.ls ≠ key e.ls := fun x hx h2 => find_ent_none hf x hx (key_inj (hmd x hx) hm h2)
  have hno : Maps.has D (key e.ls) = false := by
    cases hh : Maps.has D (key e.ls) with
    | false => rfl
    | true =>
      obtain ⟨x, hx, h2⟩ := h.keys _ hh
      exact absurd h2.symm (hne x hx)
  refine ⟨fun x hx => ?_, ?_, fun kl hkl => ?_⟩
  · rcases setE_mem hes hx with rfl | ⟨hx, _⟩
    · exact ⟨Maps.has_put_same ht.isMap (key_isKey _) _, fun z => Maps.atKey_put_same ht.isMap (key_isKey _) _ z⟩
    · rw [Maps.has_put_other (hne x hx)]
      exact ⟨(h.hit x hx).1, fun z => by rw [Maps.atKey_put_other (hne x hx)]; exact (h.hit x hx).2 z⟩
  · rw [Maps.size_put ht, hno, if_neg (by simp), h.size, setE_len hs, hf, if_pos rfl]
  · by_cases hk : kl = key e.ls
    · exact ⟨e, setE_self S e, hk⟩
    · rw [Maps.has_put_other hk] at hkl
      obtain ⟨x, hx, h2⟩ := h.keys kl hkl
      exact ⟨x, setE_old hx (find_ent_none hf x hx), h2⟩
/-- A series that was not there. -/
theorem HR.insert {base hb mb : Nat} {win : Int} {S : List Ent} {W W' : World} (h : HR base hb mb win S W) {e : Ent} (hf : find (abs S) e.ls = none) (hm : Hl.made e.ls)
    (hmap : ∀ D, W.ownsMap Try.prog 9 RP mb S.length D → W'.ownsMap Try.prog 9 RP mb (S.length + 1) (D.put (key e.ls) (.lit (.int .i64 e.g)))) (he : EntOk base W' e)
    (hge : W.heap.size ≤ e.g) (hse : ∀ k, e.sv.ownBlock = some k → W.heap.size ≤ k)
    (hhd : W'.heap[hb]? = some (.cells #[.int .i64 win, .map (some mb), .int .i64 (cnt (setA (abs S) e.ls e.xs) : Nat)] 115 (0, 0)))
    (hk : ∀ k, Own hb mb S k → k ≠ hb → k ≠ mb → W'.heap[k]? = W.heap[k]?) (hok : Ok (setA (abs S) e.ls e.xs)) : HR base hb mb win (setE S e) W' := by
  have hes := esorted_of h.ok.sorted
  have habs : abs (setE S e) = setA (abs S) e.ls e.xs := abs_setE S _
  have hmbt : ∀ (cs : Array Value) (t : TypeId), W.heap[mb]? ≠ some (.cells cs t (0, 0)) := by
    intro cs t h2
    obtain ⟨D, ⟨es, ck, hb1, _⟩, _⟩ := h.map
    rw [hb1] at h2
    cases h2
  refine ⟨h.lo, h.wok, by rw [habs]; exact hhd, ?_, fun x hx => ?_, ?_, by rw [habs]; exact hok⟩
  · obtain ⟨D, hm2, hD⟩ := h.map
    refine ⟨_, ?_, hD.put h.ok.sorted (fun x hx => made_of h hx) (hm2.tidy law9) hm hf⟩
    rw [setE_len h.ok.sorted, hf, if_pos rfl]
    exact hmap D hm2
  · rcases setE_mem hes hx with rfl | ⟨hx, hne⟩
    · exact he
    · have hxe := h.ent x hx
      refine hxe.move (fun k hkk => hk k (.inr (.inr ⟨x, hx, hkk⟩)) ?_ ?_)
      · rintro rfl
        rcases hkk with h1 | h1 | h1
        · have := hxe.blk
          rw [← h1] at this
          exact absurd (type_ne h.head this) (by decide)
        · obtain ⟨cs, h2⟩ := hxe.lv_type h1
          exact absurd (type_ne h.head h2) (by decide)
        · obtain ⟨cs, h2⟩ := hxe.sv_type h1
          exact absurd (type_ne h.head h2) (by decide)
      · rintro rfl
        rcases hkk with h1 | h1 | h1
        · have := hxe.blk
          rw [← h1] at this
          exact hmbt _ _ this
        · obtain ⟨cs, h2⟩ := hxe.lv_type h1
          exact hmbt _ _ h2
        · obtain ⟨cs, h2⟩ := hxe.sv_type h1
          exact hmbt _ _ h2
  · refine setE_pair apart_sym hes h.apart (fun x hx hne => ?_)
    have hxe := h.ent x hx
    refine ⟨fun h2 => ?_, fun k hk1 hk2 => ?_⟩
    · have := (hxe.lt _ (.inl rfl)).2
      omega
    · have h1 := (hxe.lt k (.inr (.inr hk1))).2
      have h2 := hse k hk2
      omega
theorem cnt_setA {L : A} {m : List S53} {xs : List S44} (hs : sorted L) : cnt (setA L m xs) + ((find L m).getD []).length = cnt L + xs.length := by
  induction L with
  | nil => simp [setA, cnt, find]
  | cons q L ih =>
    obtain ⟨h1, h2⟩ := List.pairwise_cons.1 hs
    rw [setA]
    split
    · rename_i h3
      rw [find, if_pos h3]
      simp [cnt]
      omega
    · rename_i h3
      split
      · rename_i h4
        have hn : find (q :: L) m = none := find_none.2 (fun p hp e => by
          rcases List.mem_cons.1 hp with h5 | h5
          · exact h3 (lcl_zero.2 (by rw [← h5]; exact e))
          · have := h1 p h5
            rw [e] at this
            have := lcl_tr h4 this
            rw [lcl_self] at this
            omega)
        rw [hn]
        simp [cnt]
        omega
      · rw [find, if_neg h3]
        have := ih h2
        simp only [cnt, List.map_cons, List.sum_cons] at this ⊢
        omega
end Hd
end Go.Proofs.Ytcgocdhffcnleaa.PHead
