/- Parts of the proof of the law's row, put together: see the theorems' own lines. -/
import Derived.Test.YtcgocdhffcnleaaVHeadBatchax
import Derived.Test.YtcgocdhffcnleaaVHeadBatchaz
import Derived.Test.YtcgocdhffcnleaaVHeadBatchag
import Derived.Test.YtcgocdhffcnleaaVHeadBatchao
/- A part of the proofs about the head: see the theorems' own lines. -/
namespace Go.Proofs.Ytcgocdhffcnleaa.PHead
open Go Go.RowKit Go.Proofs.YtcgocdhffcnleaaW.PrintWords Go.Proofs.YtcgocdhffcnleaaW.PrintLast Go.Proofs.YtcgocdhffcnleaaW.PrintMore Go.Proofs.Ytcgocdhffcnleaa.XB Go.Proofs.Ytcgocdhffcnleaa.PHeadPlays Go.Proofs.Ytcgocdhffcnleaa.XH
set_option linter.unusedVariables false
set_option linter.unusedSimpArgs false
section
open Go.Proofs.Ytcgocdhffcnleaa.XP
/-! ### two rows of samples that are one -/
theorem Bt.wiS {i n : Nat} (h : i < n) (hn : n ≤ 1152921504606846976) : wrap64 ((i : Int) + 1) = ((i + 1 : Nat) : Int) := by rw [w64 (by omega) (by omega)]; omega
theorem Bt.sams_l0 (a : List S44) (hn : a.length ≤ 1152921504606846976) : ∀ (d i : Nat), i + d = a.length → Ev (fun k => lysimeterref11_SameSamples.l0 k a a (i : Int)) true := by
  intro d
  induction d with
  | zero =>
    intro i hi
    refine Ev.step (f := fun _ => some true) (fun k => ?_) (Ev.now _)
    simp only [lysimeterref11_SameSamples.l0]
    rw [if_neg (by omega)]
  | succ d ih =>
    intro i hi
    have hlt : i < a.length := by omega
    refine Ev.step (f := fun k => lysimeterref11_SameSamples.l0 k a a ((i + 1 : Nat) : Int)) (fun k => ?_) (ih (i + 1) (by omega))
    simp only [lysimeterref11_SameSamples.l0]
    rw [if_pos (by omega), if_pos (by omega), if_pos (by omega), if_neg (by simp), Bt.wiS hlt hn]
theorem Bt.sams_self {a : List S44} (hn : a.length ≤ 1152921504606846976) : Ev (fun k => lysimeterref11_SameSamples.f k a a) true := by
  unfold lysimeterref11_SameSamples.f
  exact ev_if_pos rfl (Bt.sams_l0 a hn a.length 0 (by omega))
/-! ### labels and series that are one -/
theorem Bt.rdR_nat {l : List S68} {i : Nat} (h : i < l.length) : rd_T68 l (i : Int) = l[i] := by
  unfold rd_T68
  rw [Int.toNat_natCast, List.getD_eq_getElem?_getD, List.getElem?_eq_getElem h]; rfl
theorem Bt.labs_l0 (a : List S53) (hn : a.length ≤ 1152921504606846976) : ∀ (d i : Nat), i + d = a.length → Ev (fun k => lysimeterref11_SameLabels.l0 k a a (i : Int)) true := by
  intro d
  induction d with
  | zero =>
    intro i hi
    refine Ev.step (f := fun _ => some true) (fun k => ?_) (Ev.now _)
    simp only [lysimeterref11_SameLabels.l0]
    rw [if_neg (by omega)]
  | succ d ih =>
    intro i hi
    have hlt : i < a.length := by omega
    refine Ev.step (f := fun k => lysimeterref11_SameLabels.l0 k a a ((i + 1 : Nat) : Int)) (fun k => ?_) (ih (i + 1) (by omega))
    simp only [lysimeterref11_SameLabels.l0]
    rw [if_pos (by omega), if_pos (by omega), if_pos (by omega), if_neg (by simp), Bt.wiS hlt hn]
theorem Bt.labs_self {a : List S53} (hn : a.length ≤ 1152921504606846976) : Ev (fun k => lysimeterref11_SameLabels.f k a a) true := by
  unfold lysimeterref11_SameLabels.f
  exact ev_if_pos rfl (Bt.labs_l0 a hn a.length 0 (by omega))
theorem Bt.sers_l0 (a : List S68) (hn : a.length ≤ 1152921504606846976) (hm : ∀ y ∈ a, y.f0.length ≤ 1152921504606846976 ∧ y.f1.length ≤ 1152921504606846976) : ∀ (d i : Nat), i + d = a.length → Ev (fun k => lysimeterref11_SameSeries.l0 k a a (i : Int)) true := by
  intro d
  induction d with
  | zero =>
    intro i hi
    refine Ev.step (f := fun _ => some true) (fun k => ?_) (Ev.now _)
    simp only [lysimeterref11_SameSeries.l0]
    rw [if_neg (by omega)]
  | succ d ih =>
    intro i hi
    have hlt : i < a.length := by omega
    have hb := hm a[i] (List.getElem_mem hlt)
    refine Ev.step (f := fun k => (lysimeterref11_SameLabels.f k a[i].f0 a[i].f0).bind fun t143 => (lysimeterref11_SameSamples.f k a[i].f1 a[i].f1).bind fun t146 => if t143 = true then (if t146 = true then lysimeterref11_SameSeries.l0 k a a ((i + 1 : Nat) : Int) else some false) else some false) (fun k => ?_) (Ev.bind (Bt.labs_self hb.1) (Ev.bind (Bt.sams_self hb.2) (ev_if_pos rfl (ev_if_pos rfl (ih (i + 1) (by omega))))))
    simp only [lysimeterref11_SameSeries.l0]
    rw [if_pos (by omega), if_pos (by omega), if_pos (by omega), Bt.rdR_nat hlt, Bt.wiS hlt hn]
theorem Bt.sers_self {a : List S68} (hn : a.length ≤ 1152921504606846976) (hm : ∀ y ∈ a, y.f0.length ≤ 1152921504606846976 ∧ y.f1.length ≤ 1152921504606846976) : Ev (fun k => lysimeterref11_SameSeries.f k a a) true := by
  unfold lysimeterref11_SameSeries.f
  exact ev_if_pos rfl (Bt.sers_l0 a hn hm a.length 0 (by omega))
theorem Bt.same (A0 A1 : Option Addr) (c0 c1 : Nat) (l : List S68) (w : World) (h0 : Kd.C k68 w A0 l.length l) (h1 : Kd.C k68 w A1 l.length l) (hc0 : l.length ≤ c0) (hc1 : l.length ≤ c1) (hn : l.length ≤ 1152921504606846976) (hm : ∀ y ∈ l, y.f0.length ≤ 1152921504606846976 ∧ y.f1.length ≤ 1152921504606846976) :
    Calls Try.prog 32 #[.slice A0 l.length c0, .slice A1 l.length c1] w fun e w' => e = .returned (.bool true) ∧ Below w.heap.size w w' := by
  obtain ⟨k, hk⟩ := (Bt.sers_self hn hm).rounds
  refine (lysimeterref11_SameSeries.calls k A0 c0 l A1 c1 l true w h0 hc0 h1 hc1 hk).mono ?_
  rintro e w' ⟨rfl, hd⟩
  exact ⟨rfl, hd.below⟩
end
/-! ### BigRows answers something -/
section
open Go.Proofs.Ytcgocdhffcnleaa.XP
theorem Bt.big_l0 (a : List S53) (hn : a.length ≤ 1152921504606846976) : ∀ (d i : Nat) (x : Int), i + d = a.length → ∃ r, Ev (fun k => lysimeterlaw11_Big.l0 k a x (i : Int)) r := by
  intro d
  induction d with
  | zero =>
    intro i x hi
    exact ⟨_, Ev.step (f := fun _ => some (decide (x > 4000))) (fun k => by rw [lysimeterlaw11_Big.l0, if_neg (by omega)]) (Ev.now _)⟩
  | succ d ih =>
    intro i x hi
    have hlt : i < a.length := by omega
    by_cases h : x ≤ 4000
    · obtain ⟨r, hr⟩ := ih (i + 1) (wrap64 ((wrap64 ((wrap64 (x + 1)) + (((rd_T53 a (i : Int)).f0).size : Int))) + (((rd_T53 a (i : Int)).f1).size : Int))) (by omega)
      exact ⟨r, Ev.step (fun k => by rw [lysimeterlaw11_Big.l0, if_pos (by omega), if_pos h, if_pos (by omega), Bt.wiS hlt hn]) hr⟩
    · exact ⟨_, Ev.step (f := fun _ => some (decide (x > 4000))) (fun k => by rw [lysimeterlaw11_Big.l0, if_pos (by omega), if_neg h]) (Ev.now _)⟩
theorem Bt.big (a : List S53) (hn : a.length ≤ 1152921504606846976) : ∃ r, Ev (fun k => lysimeterlaw11_Big.f k a) r := Bt.big_l0 a hn a.length 0 0 (by omega)
theorem Bt.bigRows_l0 (a : List S46) (hn : a.length ≤ 1152921504606846976) (hm : ∀ y ∈ a, y.f0.length ≤ 1152921504606846976) : ∀ (d i : Nat) (x : Int), i + d = a.length → ∃ r, Ev (fun k => lysimeterlaw13_BigRows.l0 k a x (i : Int)) r := by
  intro d
  induction d with
  | zero =>
    intro i x hi
    refine ⟨_, Ev.step (f := fun k => lysimeterlaw13_BigRows.j1 k a x (i : Int) false) (fun k => by rw [lysimeterlaw13_BigRows.l0, if_neg (by omega)]) (Ev.step (f := fun _ => some (decide (x > 20000))) (fun k => by rw [lysimeterlaw13_BigRows.j1, if_neg (by simp)]) (Ev.now _))⟩
  | succ d ih =>
    intro i x hi
    have hlt : i < a.length := by omega
    by_cases h : x ≤ 20000
    · have hrd : rd_T46 a (i : Int) = a[i] := by unfold rd_T46; simp [hlt]
      obtain ⟨b, hb⟩ := Bt.big (rd_T46 a (i : Int)).f0 (by rw [hrd]; exact hm _ (List.getElem_mem hlt))
      obtain ⟨r, hr⟩ := ih (i + 1) (wrap64 ((wrap64 (x + 10)) + (wrap64 ((((rd_T46 a (i : Int)).f0).length : Int) * 8)))) (by omega)
      have h2 : ∃ q, Ev (fun k => (lysimeterlaw11_Big.f k ((rd_T46 a (i : Int)).f0)).bind fun t158 => if t158 = true then some true else lysimeterlaw13_BigRows.l0 k a (wrap64 ((wrap64 (x + 10)) + (wrap64 ((((rd_T46 a (i : Int)).f0).length : Int) * 8)))) ((i + 1 : Nat) : Int)) q := by
        cases b with
        | true => exact ⟨_, Ev.bind hb (ev_if_pos rfl (Ev.now _))⟩
        | false => exact ⟨_, Ev.bind hb (ev_if_neg (by simp) hr)⟩
      obtain ⟨q, hq⟩ := h2
      refine ⟨q, Ev.step (f := fun k => lysimeterlaw13_BigRows.j1 k a x (i : Int) true) (fun k => by rw [lysimeterlaw13_BigRows.l0, if_pos (by omega), decide_eq_true h]) (Ev.step (fun k => by rw [lysimeterlaw13_BigRows.j1, if_pos rfl, if_pos (by omega), if_pos (by omega), Bt.wiS hlt hn]) hq)⟩
    · refine ⟨_, Ev.step (f := fun k => lysimeterlaw13_BigRows.j1 k a x (i : Int) false) (fun k => by rw [lysimeterlaw13_BigRows.l0, if_pos (by omega), decide_eq_false h]) (Ev.step (f := fun _ => some (decide (x > 20000))) (fun k => by rw [lysimeterlaw13_BigRows.j1, if_neg (by simp)]) (Ev.now _))⟩
theorem Bt.bigRows (A : Option Addr) (c : Nat) (l : List S46) (w : World) (hC : Kd.C k46 w A l.length l) (hc : l.length ≤ c) (hn : l.length ≤ 1152921504606846976) (hm : ∀ y ∈ l, y.f0.length ≤ 1152921504606846976) :
    ∃ b, Calls Try.prog 29 #[.slice A l.length c] w fun e w' => e = .returned (.bool b) ∧ Below w.heap.size w w' := by
  obtain ⟨r, hr⟩ := Bt.bigRows_l0 l hn hm l.length 0 0 (by omega)
  obtain ⟨k, hk⟩ := hr.rounds
  refine ⟨r, (lysimeterlaw13_BigRows.calls k A c l r w hC hc hk).mono ?_⟩
  rintro e w' ⟨rfl, hd⟩
  exact ⟨rfl, hd.below⟩
end
/-! ### HeadBatch, in plain lists -/
section
theorem Bt.ask_append {win low : Int} : ∀ (a b : List S46) (L : Hd.A), Hd.askF win low (a ++ b) L = match Hd.askF win low a L with | .error e => .error e | .ok L' => Hd.askF win low b L'
  | [], b, L => rfl
  | r :: a, b, L => by
    rw [List.cons_append, Hd.askF, Hd.askF]
    cases Hd.rowF win low L r with
    | error e => rfl
    | ok L' => exact Bt.ask_append a b L'
def Bt.bad : S46 := ⟨[⟨⟨#[]⟩, ⟨#[]⟩⟩], ⟨0, 0⟩⟩
theorem Bt.bad_mk : Hl.mk Bt.bad.f0 = none := by
  unfold Bt.bad Hl.mk
  rw [if_neg (by simp)]
  show (if Hl.okL ⟨⟨#[]⟩, ⟨#[]⟩⟩ = true then _ else none) = none
  rw [if_neg (by decide)]
theorem Bt.bad_write (win : Int) (a b : List S46) (h : a.length + b.length ≤ 199) : ∃ e, e ≠ 0 ∧ Hd.writeF win [] (a ++ [Bt.bad] ++ b) = (e, []) := by
  have hl : (a ++ [Bt.bad] ++ b).length = a.length + b.length + 1 := by simp; omega
  have he : ∃ e, Hd.askF win (-Hd.maxT) (a ++ [Bt.bad] ++ b) [] = .error e := by
    rw [List.append_assoc, Bt.ask_append]
    cases Hd.askF win (-Hd.maxT) a [] with
    | error e => exact ⟨e, rfl⟩
    | ok L' =>
      refine ⟨20, ?_⟩
      show Hd.askF win (-Hd.maxT) (Bt.bad :: b) L' = _
      have hr : Hd.rowF win (-Hd.maxT) L' Bt.bad = .error 20 := by
        unfold Hd.rowF
        rw [Bt.bad_mk]
      rw [Hd.askF, hr]
  obtain ⟨e, he⟩ := he
  refine ⟨e, Hd.askF_err he, ?_⟩
  unfold Hd.writeF
  rw [if_neg (by omega), if_neg (by omega), he]
def Bt.st (win : Int) (rows : List S46) (i : Nat) : Hd.A := match Hd.askF win (-Hd.maxT) (rows.take i) [] with | .ok L => L | .error _ => []
theorem Bt.st_ok {win : Int} {rows : List S46} {L' : Hd.A} (h : Hd.askF win (-Hd.maxT) rows [] = .ok L') (i : Nat) : Hd.askF win (-Hd.maxT) (rows.take i) [] = .ok (Bt.st win rows i) := by
  have h2 := Bt.ask_append (win := win) (low := -Hd.maxT) (rows.take i) (rows.drop i) []
  rw [List.take_append_drop, h] at h2
  unfold Bt.st
  cases h3 : Hd.askF win (-Hd.maxT) (rows.take i) [] with
  | error e => rw [h3] at h2; cases h2
  | ok L => rfl
theorem Bt.st_step {win : Int} {rows : List S46} {L' : Hd.A} (h : Hd.askF win (-Hd.maxT) rows [] = .ok L') (i : Nat) (hi : i < rows.length) : Hd.writeF win (Bt.st win rows i) [rows[i]] = (0, Bt.st win rows (i + 1)) := by
  have h1 := Bt.st_ok h (i + 1)
  rw [List.take_succ_eq_append_getElem hi, Bt.ask_append, Bt.st_ok h i] at h1
  unfold Hd.writeF
  rw [if_neg (by simp), if_neg (by simp)]
  dsimp only at h1
  rw [h1]
theorem Bt.st_all {win : Int} {rows : List S46} {L' : Hd.A} (h : Hd.askF win (-Hd.maxT) rows [] = .ok L') : Bt.st win rows rows.length = L' := by
  unfold Bt.st
  rw [List.take_length, h]
end
end Go.Proofs.Ytcgocdhffcnleaa.PHead

/- A part of the proofs about the head: see the theorems' own lines. -/
namespace Go.Proofs.Ytcgocdhffcnleaa.PHead
open Go Go.RowKit Go.Proofs.YtcgocdhffcnleaaW.PrintWords Go.Proofs.YtcgocdhffcnleaaW.PrintLast Go.Proofs.YtcgocdhffcnleaaW.PrintMore Go.Proofs.Ytcgocdhffcnleaa.XB Go.Proofs.Ytcgocdhffcnleaa.PHeadPlays Go.Proofs.Ytcgocdhffcnleaa.XH
set_option linter.unusedVariables false
set_option linter.unusedSimpArgs false
/-! ### rows as headers -/
section
structure Bt.H where
  A : Option Addr
  c : Nat
  x : S46
def Bt.enc (h : Bt.H) : List Value := [.slice h.A h.x.f0.length h.c, .int .i64 h.x.f1.f0, .int .i64 h.x.f1.f1]
def Bt.HV (w : World) (h : Bt.H) : Prop := h.x.f0.length ≤ h.c ∧ k53.C w h.A h.x.f0.length h.x.f0
theorem Bt.HV.below {w W : World} {h : Bt.H} (hv : Bt.HV w h) (hb : Below w.heap.size w W) : Bt.HV W h := ⟨hv.1, Kd.C_below hv.2 hb⟩
def Bt.kR : Kd Bt.H where
  sz := 3
  E := []
  K := fun _ x cs => cs = Bt.enc x
  M := fun _ _ _ x cs => cs = Bt.enc x
  K_len := fun h => by rw [h]; rfl
  K_one := fun h u hu => by
    rw [h] at hu
    simp only [Bt.enc, List.mem_cons, List.not_mem_nil, or_false] at hu
    rcases hu with rfl | rfl | rfl <;> rfl
  K_below := fun _ h => h
  K_of_M := fun h => h
  M_mono := fun _ h => h
  M_bound := fun h => h
  M_move := fun _ h => h
  M_lower := fun _ h => h
theorem Bt.lift {w : World} {A : Option Addr} {n : Nat} {xs : List S46} (h : Kd.C k46 w A n xs) : ∃ hs : List Bt.H, hs.map (·.x) = xs ∧ (∀ h ∈ hs, Bt.HV w h) ∧ Kd.C Bt.kR w A n hs := by
  obtain ⟨h1, h2, h3⟩ := h
  by_cases hn : 0 < n
  · obtain ⟨ad, rfl, h4⟩ := h3 hn
    have key : ∀ j : Fin n, ∃ h : Bt.H, xs[j.val]? = some h.x ∧ Bt.HV w h ∧ ∀ i u, (Bt.enc h)[i]? = some u → w.cell? (ad.add (j.val * 3 + i)) = some u := by
      intro j
      have hj : j.val < xs.length := by rw [h1]; exact j.isLt
      obtain ⟨cs, hc1, hc2, hc3⟩ := h4 j.val xs[j.val] (List.getElem?_eq_getElem hj)
      obtain ⟨A0, c0, rfl, g1, g2⟩ := k46_open hc2
      exact ⟨⟨A0, c0, xs[j.val]⟩, List.getElem?_eq_getElem hj, ⟨g1, g2⟩, hc3⟩
    refine ⟨List.ofFn fun j => Classical.choose (key j), ?_, ?_, ?_, h2, fun _ => ⟨ad, rfl, ?_⟩⟩
    · apply List.ext_getElem
      · simp [h1]
      · intro i hi hi2
        have hin : i < n := by rw [h1] at hi2; exact hi2
        have := (Classical.choose_spec (key ⟨i, hin⟩)).1
        have e := this.symm.trans (List.getElem?_eq_getElem hi2)
        simp only [List.getElem_map, List.getElem_ofFn]
        exact Option.some.inj e
    · intro h hh
      obtain ⟨j, rfl⟩ := List.mem_ofFn.1 hh
      exact (Classical.choose_spec (key j)).2.1
    · simp
    · intro j p hp
      have hjn : j < n := by
        have := (List.getElem?_eq_some_iff.1 hp).1
        simpa using this
      have e : p = Classical.choose (key ⟨j, hjn⟩) := by
        rw [List.getElem?_ofFn, dif_pos hjn] at hp
        exact (Option.some.inj hp).symm
      subst e
      exact ⟨_, rfl, rfl, (Classical.choose_spec (key ⟨j, hjn⟩)).2.2⟩
  · have hx : xs = [] := List.eq_nil_of_length_eq_zero (by omega)
    subst hx
    exact ⟨[], rfl, (fun h hh => by cases hh), h1, h2, fun hp => absurd hp hn⟩
/-- Back: headers whose rows can be read are rows. -/
theorem Bt.lower {W : World} {A : Option Addr} {n : Nat} {hs : List Bt.H} (h : Kd.C Bt.kR W A n hs) (hv : ∀ h ∈ hs, Bt.HV W h) : Kd.C k46 W A n (hs.map (·.x)) := by
  obtain ⟨h1, h2, h3⟩ := h
  refine ⟨by rw [List.length_map]; exact h1, h2, fun hp => ?_⟩
  obtain ⟨ad, h4, h5⟩ := h3 hp
  refine ⟨ad, h4, fun j p hj => ?_⟩
  rw [List.getElem?_map] at hj
  obtain ⟨q, hq, hqp⟩ := Option.map_eq_some_iff.1 hj
  obtain ⟨cs, c1, c2, c3⟩ := h5 j q hq
  obtain ⟨v1, v2⟩ := hv q (List.mem_of_getElem? hq)
  refine ⟨cs, c1, ?_, c3⟩
  rw [show cs = Bt.enc q from c2, ← hqp]
  exact k46_mk W q.x v1 v2
end
/-! ### heads side by side -/
section
theorem Bt.beside {b1 h1 m1 h2 m2 : Nat} {win : Int} {S1 S2 S2' : List Hd.Ent} {W w' : World} (h : Hd.HR b1 h1 m1 win S1 W) (hf : Hd.Fr (Hd.Own h2 m2 S2) (Hd.Own h2 m2 S2') W w') (hap : ∀ k, Hd.Own h1 m1 S1 k → ¬ Hd.Own h2 m2 S2 k) :
    Hd.HR b1 h1 m1 win S1 w' ∧ ∀ k, Hd.Own h1 m1 S1 k → ¬ Hd.Own h2 m2 S2' k := by
  refine ⟨h.move (fun k hk => hf.blk k (h.lt k hk).2 (hap k hk)), fun k hk hk2 => ?_⟩
  rcases hf.new k hk2 with h3 | h3
  · exact hap k hk h3
  · have := (h.lt k hk).2
    omega
theorem Bt.cnt_ask {win low : Int} : ∀ {rows : List S46} {L L' : Hd.A}, Hd.Ok L → Hd.askF win low rows L = .ok L' → Hd.Ok L' ∧ Hd.cnt L' ≤ Hd.cnt L + rows.length
  | [], L, L', ho, h => by
    injection h with h
    subst h
    exact ⟨ho, Nat.le_refl _⟩
  | r :: rows, L, L', ho, h => by
    rw [Hd.askF] at h
    cases hr : Hd.rowF win low L r with
    | error e => rw [hr] at h; cases h
    | ok L2 =>
      rw [hr] at h
      obtain ⟨ho2, m, _, hL2, _, _⟩ := Hd.rowF_ok ho hr
      obtain ⟨h3, h4⟩ := Bt.cnt_ask ho2 h
      have h5 := Hd.cnt_putL ho.sorted m r.f1
      rw [← hL2] at h5
      refine ⟨h3, ?_⟩
      rw [List.length_cons]
      omega
end
section
/-- A write that is refused leaves the head as it was. -/
theorem Bt.refused {win : Int} {L : Hd.A} {rows : List S46} (h : (Hd.writeF win L rows).1 ≠ 0) : (Hd.writeF win L rows).2 = L := by
  unfold Hd.writeF at h ⊢
  split
  · rfl
  · split
    · rfl
    · rename_i h1 h2
      rw [if_neg h1, if_neg h2] at h
      cases ha : Hd.askF win (-Hd.maxT) rows L with
      | error e => rfl
      | ok L' => rw [ha] at h; exact absurd rfl h
theorem Bt.taken {win : Int} {L : Hd.A} {rows : List S46} (h : (Hd.writeF win L rows).1 = 0) : Hd.askF win (-Hd.maxT) rows L = .ok (Hd.writeF win L rows).2 ∧ rows.length ≤ 200 := by
  unfold Hd.writeF at h ⊢
  split
  · rename_i h1; rw [if_pos h1] at h; cases h
  · rename_i h1
    split
    · rename_i h2; rw [if_neg h1, if_pos h2] at h; cases h
    · rename_i h2
      rw [if_neg h1, if_neg h2] at h
      cases ha : Hd.askF win (-Hd.maxT) rows L with
      | error e => rw [ha] at h; exact absurd h (Hd.askF_err ha)
      | ok L' => exact ⟨rfl, by omega⟩
end
section
/-- Rows of one's own, younger than block B, whose labels are older than w or younger than B, read whatever becomes of the blocks between. -/
theorem Bt.batchF {w W : World} {B n cap : Nat} {A : Option Addr} {rows : List Bt.H} (h : Kd.R Bt.kR 46 W B (fun _ => True) (.slice A n cap) rows)
    (hr : ∀ h ∈ rows, ∀ W', (∀ k, (k < w.heap.size ∨ B ≤ k) → k < W.heap.size → W'.heap[k]? = W.heap[k]?) → Bt.HV W' h) : Kd.F k46 W (fun k => k < w.heap.size ∨ B ≤ k) A n (rows.map (·.x)) := by
  intro W' hW
  have h1 := Kd.R_move (Kd.R_bound h) (fun k hk => hW k (.inr hk.2.1) hk.2.2.1)
  obtain ⟨e1, _, h2⟩ := Kd.R_reads' h1
  subst e1
  exact Bt.lower h2 (fun q hq => hr q hq W' hW)
theorem Bt.c53 {w W' : World} {A : Option Addr} {n : Nat} {xs : List S53} (h : Kd.C k53 w A n xs) (hW : ∀ k, k < w.heap.size → W'.heap[k]? = w.heap[k]?) : Kd.C k53 W' A n xs := by
  obtain ⟨h1, h2, h3⟩ := h
  refine ⟨h1, h2, fun hp => ?_⟩
  obtain ⟨ad, e, hc⟩ := h3 hp
  refine ⟨ad, e, fun j x hj => ?_⟩
  obtain ⟨cs, c1, c2, c3⟩ := hc j x hj
  refine ⟨cs, c1, by rw [k53_open c2]; exact k53_mk W' x, fun i u hu => ?_⟩
  have h4 := c3 i u hu
  have h5 := hW _ (World.block_lt_of_cell? w _ h4)
  unfold World.cell? at h4 ⊢
  rw [h5]
  exact h4
/-- What read at w reads in every world that agrees with a later one on the blocks of w. -/
theorem Bt.HV.old {w W W' : World} {h : Bt.H} {B : Nat} (hv : Bt.HV w h) (hb : Below w.heap.size w W) (hW : ∀ k, (k < w.heap.size ∨ B ≤ k) → k < W.heap.size → W'.heap[k]? = W.heap[k]?) : Bt.HV W' h :=
  ⟨hv.1, Bt.c53 hv.2 (fun k hlt => (hW k (.inl hlt) (Nat.lt_of_lt_of_le hlt hb.size)).trans (hb.block k hlt))⟩
/-- The bad row's labels. -/
theorem Bt.HV.bad {W W' : World} {g1 B : Nat} {w : World} (hg : W.heap[g1]? = some (.cells #[.string ⟨#[]⟩, .string ⟨#[]⟩] 53 (0, 0))) (hB : B ≤ g1) (hW : ∀ k, (k < w.heap.size ∨ B ≤ k) → k < W.heap.size → W'.heap[k]? = W.heap[k]?) : Bt.HV W' ⟨some ⟨g1, 0, none⟩, 1, Bt.bad⟩ := by
  have hg' := (hW g1 (.inr hB) (blk_lt hg)).trans hg
  refine ⟨Nat.le_refl _, rfl, (by show (1 : Nat) ≤ _; omega), fun _ => ⟨_, rfl, fun j x hj => ?_⟩⟩
  have hj0 : j = 0 := by
    have h2 : j < 1 := (List.getElem?_eq_some_iff.1 hj).1
    omega
  subst hj0
  have hx : x = ⟨⟨#[]⟩, ⟨#[]⟩⟩ := by
    have h2 : Bt.bad.f0[0]? = some ⟨⟨#[]⟩, ⟨#[]⟩⟩ := rfl
    rw [h2] at hj
    injection hj with hj
    exact hj.symm
  refine ⟨[.string ⟨#[]⟩, .string ⟨#[]⟩], rfl, ?_, fun i u hu => ?_⟩
  · rw [hx]
    exact k53_mk W' _
  · rw [add_plain]
    simp only [Nat.zero_mul, Nat.zero_add]
    rw [blk_cell hg']
    simpa using hu
end
section
theorem Bt.heap46 : Kd.Heap k46 := Kd.heap_iso _ (Kd.heap_pair (Kd.heap_slice 53 (Kd.heap_iso _ (Kd.heap_pair Kd.heap_string Kd.heap_string))) (Kd.heap_iso _ (Kd.heap_pair (Kd.heap_int _) (Kd.heap_int _))))
theorem Bt.cutF {W : World} {ok : Nat → Prop} {A : Option Addr} {l : List S46} {c i : Nat} (h : Kd.F k46 W ok A l.length l) (hi : i < l.length) (hc : l.length ≤ c) : Kd.F k46 W ok (if c = i then A else A.map (·.add (i * 3))) [l[i]].length [l[i]] := by
  have e : (l.take (i + 1)).drop i = [l[i]] := by rw [List.take_succ_eq_append_getElem hi, List.drop_left' (by rw [List.length_take]; omega)]
  refine Kd.F_imp h (fun W' h' => ?_)
  have h2 := Kd.C_mid (lo := i) (hi := i + 1) h' (by omega) (by omega) hc
  rw [e] at h2
  exact h2
/-- Three heads, made one behind the other. -/
theorem Bt.three {w W1 W2 W3 W4 W9 W : World} {h1 m1 h2 m2 h3 m3 : Nat} {win : Int} (hb1 : Below w.heap.size w W1) (ha : Hd.HR W1.heap.size h1 m1 win [] W2) (hb : Hd.HR W2.heap.size h2 m2 win [] W3) (hc : Hd.HR W3.heap.size h3 m3 win [] W4)
    (hb2 : Below W1.heap.size W1 W2) (hb3 : Below W2.heap.size W2 W3) (hb4 : Below W3.heap.size W3 W4) (hb9 : Below W4.heap.size W4 W9) (hbw : Below W9.heap.size W9 W) :
    Hd.HR W1.heap.size h1 m1 win [] W ∧ Hd.HR W2.heap.size h2 m2 win [] W ∧ Hd.HR W3.heap.size h3 m3 win [] W ∧ (∀ k, Hd.Own h1 m1 [] k → ¬ Hd.Own h2 m2 [] k) ∧ (∀ k, Hd.Own h1 m1 [] k → ¬ Hd.Own h3 m3 [] k) ∧ (∀ k, Hd.Own h2 m2 [] k → ¬ Hd.Own h3 m3 [] k) ∧
      (∀ k, (k < w.heap.size ∨ W9.heap.size ≤ k) → ¬ Hd.Own h1 m1 [] k) ∧ w.heap.size ≤ W1.heap.size ∧ w.heap.size ≤ W2.heap.size ∧ w.heap.size ≤ W3.heap.size := by
  have c4 := below_step hb9 hbw
  have c3 := below_step hb4 c4
  have c2 := below_step hb3 c3
  have s1 := hb1.size
  have s2 := hb2.size
  have s3 := hb3.size
  have s4 := hb4.size
  have s9 := hb9.size
  refine ⟨ha.below c2, hb.below c3, hc.below c4, fun k hk hk2 => ?_, fun k hk hk2 => ?_, fun k hk hk2 => ?_, fun k hk hk2 => ?_, by omega, by omega, by omega⟩
  · have := ha.lt k hk; have := hb.lt k hk2; omega
  · have := ha.lt k hk; have := hc.lt k hk2; omega
  · have := hb.lt k hk; have := hc.lt k hk2; omega
  · have := ha.lt k hk2; omega
end
end Go.Proofs.Ytcgocdhffcnleaa.PHead

/- A part of the proofs about the head: see the theorems' own lines. -/
namespace Go.Proofs.Ytcgocdhffcnleaa.PHead
open Go Go.RowKit Go.Proofs.YtcgocdhffcnleaaW.PrintWords Go.Proofs.YtcgocdhffcnleaaW.PrintLast Go.Proofs.YtcgocdhffcnleaaW.PrintMore Go.Proofs.Ytcgocdhffcnleaa.XB Go.Proofs.Ytcgocdhffcnleaa.PHeadPlays Go.Proofs.Ytcgocdhffcnleaa.XH
set_option linter.unusedVariables false
set_option linter.unusedSimpArgs false
/-! ### HeadBatch, walked (UNDER WAY) -/
section
theorem Bt.badC {W : World} {g1 g2 : Nat} (hg : W.heap[g2]? = some (.cells #[.slice (some ⟨g1, 0, none⟩) 1 1, .int .i64 0, .int .i64 0] 46 (0, 0))) : Kd.C Bt.kR W (some ⟨g2, 0, none⟩) 1 [(⟨some ⟨g1, 0, none⟩, 1, Bt.bad⟩ : Bt.H)] := by
  refine ⟨rfl, by decide, fun _ => ⟨_, rfl, fun j x hj => ?_⟩⟩
  have hj0 : j = 0 := by
    have := (List.getElem?_eq_some_iff.1 hj).1
    simp only [List.length_singleton] at this
    omega
  subst hj0
  have hx : x = ⟨some ⟨g1, 0, none⟩, 1, Bt.bad⟩ := by
    rw [List.getElem?_cons_zero] at hj
    injection hj with hj
    exact hj.symm
  refine ⟨[.slice (some ⟨g1, 0, none⟩) 1 1, .int .i64 0, .int .i64 0], rfl, by rw [hx]; rfl, fun i u hu => ?_⟩
  rw [add_plain]
  simp only [Nat.zero_mul, Nat.zero_add]
  rw [blk_cell hg]
  simpa using hu
set_option maxHeartbeats 8000000 in
set_option maxRecDepth 100000 in
theorem HeadBatch.calls (A : Option Addr) (c : Nat) (l : List S46) (q : Int) (w : World) (hC : Kd.C k46 w A l.length l) (hc : l.length ≤ c) (hn : l.length ≤ 1152921504606846976) (hm : ∀ y ∈ l, y.f0.length ≤ 1152921504606846976) :
    Calls Try.prog 7 #[.slice A l.length c, .int .i64 q] w fun e w' => e = .returned (.bool true) ∧ Below w.heap.size w w' := by
  have HNUM := Aside0.mk num_calls
  have HAL := Aside0.mk head_alive.calls
  have HC := Aside0.mk hC
  have HCC := Aside0.mk hc
  obtain ⟨n, hln⟩ : ∃ n, n = l.length := ⟨_, rfl⟩
  have hn9 : n ≤ 9223372036854775807 := by omega
  have HBIG := Aside0.mk (fun W (hb : Below w.heap.size w W) => Bt.bigRows A c l W (Kd.C_below hC hb) hc hn hm)
  have HLN := Aside0.mk hln
  rw [← hln] at HBIG ⊢
  clear hC hc hn hm hln
  go_enter Try.func7, Try.ntmps7
  go_upto_region 2 with (go_at_call 21; (with_reducible refine (HAL.out _).mono ?_); rintro e W0 ⟨rfl, hb0⟩; have HB0 := Aside0.mk hb0; clear hb0)
  obtain ⟨b, hbig⟩ := HBIG.out W0 HB0.out
  have HBG := Aside0.mk hbig
  clear hbig HBIG
  go_upto_region 3 with (go_at_call 29; (with_reducible refine HBG.out.mono ?_); rintro e W1 ⟨rfl, hb1⟩; have HB1 := Aside0.mk (below_step HB0.out hb1); clear hb1)
  cases b with
  | true =>
    go_wp2
    go_ret
    exact ⟨rfl, HB1.out⟩
  | false =>
    by_cases h1 : (n : Int) > 100
    · go_wp2
      go_ret
      exact ⟨rfl, HB1.out⟩
    by_cases h2 : q < 0
    · go_wp2
      go_ret
      exact ⟨rfl, HB1.out⟩
    by_cases h3 : q > (n : Int)
    · go_wp2
      go_ret
      exact ⟨rfl, HB1.out⟩
    obtain ⟨k, hk⟩ : ∃ k : Nat, q = (k : Int) := ⟨q.toNat, by omega⟩
    subst hk
    have HNEW := Aside0.mk (head_New.calls 9007199254740992)
    rw [show min (max (0 : Int) 9007199254740992) 9007199254740992 = 9007199254740992 by decide] at HNEW
    go_upto_region 6 with (go_at_call 22; (with_reducible refine (HNEW.out _).mono ?_); rintro e W2 ⟨h1b, m1b, rfl, hh, hb⟩; have HHa := Aside0.mk hh; have HB12 := Aside0.mk hb; have HB2 := Aside0.mk (below_step HB1.out hb); clear hh hb)
    go_upto_region 7 with (go_at_call 22; (with_reducible refine (HNEW.out _).mono ?_); rintro e W3 ⟨h2b, m2b, rfl, hh, hb⟩; have HHb := Aside0.mk hh; have HB3 := Aside0.mk (below_step HB2.out hb); have HB23 := Aside0.mk hb; clear hh hb)
    go_upto_region 8 with (go_at_call 22; (with_reducible refine (HNEW.out _).mono ?_); rintro e W4 ⟨h3b, m3b, rfl, hh, hb⟩; have HHc := Aside0.mk hh; have HB4 := Aside0.mk (below_step HB3.out hb); have HB34 := Aside0.mk hb; clear hh hb)
    obtain ⟨hs, hx, hvw, hkw⟩ := Bt.lift HC.out
    have hkc := Kd.C_below hkw (below_drew1 HB4.out)
    have hsl : hs.length = l.length := by rw [← hx, List.length_map]
    have hkn : k ≤ n := by omega
    have HK100 := Aside0.mk (show k ≤ 100 by omega)
    have hkc' : Kd.C Bt.kR W4.drew A hs.length hs := by rw [hsl]; exact hkc
    have HKC := Aside0.mk hkc'
    have HB9 := Aside0.mk (below_drew1 HB4.out)
    have HB49 := Aside0.mk (below_drew1 (Below.refl W4.heap.size W4))
    have hkh : k ≤ hs.length := by rw [hsl, ← HLN.out]; exact hkn
    have hT := Kd.C_take hkc' hkh
    rw [show (hs.take k).length = k from by rw [List.length_take]; omega] at hT
    have HT := Aside0.mk hT
    clear hT
    have HTL := Aside0.mk (show (hs.take k).length = k by rw [List.length_take]; omega)
    have hD := Kd.C_drop (c := c) hkc' hkh (by rw [hsl]; exact HCC.out)
    rw [show (hs.drop k).length = n - k from by rw [List.length_drop, hsl, HLN.out]] at hD
    have hD' : Kd.C Bt.kR W4.drew (if c = k then A else A.map (·.add (k * 3))) (n - k) (hs.drop k) := hD
    obtain ⟨A53, hA53⟩ : ∃ A53, A53 = (if c = k then A else A.map (·.add (k * 3))) := ⟨_, rfl⟩
    rw [← hA53] at hD'
    have HDR := Aside0.mk hD'
    clear hD hD'
    have HN100 := Aside0.mk (show n ≤ 100 by omega)
    have hcn : n ≤ c := by rw [HLN.out]; exact HCC.out
    obtain ⟨i0, hi0, _, hsz0, _⟩ := info_parts info46
    have hcut := cut_to (P := Try.prog) 48 46 .i64 Try.underlying48 hi0 A n c (k : Int) (by omega) (by omega) hcn
    rw [Int.toNat_natCast] at hcut
    have hcut2 : ∀ W : World, (Instr.slice 48 (.slice A n c) (some (.int .i64 (k : Int))) none none).run Try.prog W = .ok (.slice A53 (n - k) (c - k)) W := fun W => by
      have h := cut_from (P := Try.prog) 48 46 .i64 Try.underlying48 hi0 3 hsz0 A n c (k : Int) (by omega) (by omega) W
      rw [Int.toNat_natCast, ← hA53] at h
      exact h
    clear hA53
    clear hkc hkc' hsz0 hi0
    go_upto_region 8 with fail
    refine start_ (n := 14) (S := fun w' => True) (ds := []) #[false, false, false, false, false, false, false, false, false, false, false, false, false, false] (by kernel_rfl) rfl rfl trivial (fun hHeld => ?_)
    generalize W4.drew = W9 at HKC HT HDR HB9 HB49 hHeld ⊢
    refine pure_ (i := 0) (N := (some 42)) (v := ?_) (a' := ?_) #[true, false, false, false, false, false, false, false, false, false, false, false, false, false] rfl rfl (by kernel_rfl) (fun _ _ _ h => h) (Or.inl ⟨by rfl, ?_⟩) ?_ ?_
    rotate_left
    · intro w'
      go_simp
      with_reducible rfl
    rotate_left
    · simp only [Act.put, List.setIfInBounds_toArray, List.set_cons_zero, List.set_cons_succ, i64_w, i32_w]
      rfl
    refine pure_ (i := 1) (N := (some 43)) (v := ?_) (a' := ?_) #[true, true, false, false, false, false, false, false, false, false, false, false, false, false] rfl rfl (by kernel_rfl) (fun _ _ _ h => h) (Or.inl ⟨by rfl, ?_⟩) ?_ ?_
    rotate_left
    · intro w'
      go_simp
      with_reducible rfl
    rotate_left
    · simp only [Act.put, List.setIfInBounds_toArray, List.set_cons_zero, List.set_cons_succ, i64_w, i32_w]
      rfl
    refine pure_ (i := 2) (N := (some 44)) (v := ?_) (a' := ?_) #[true, true, true, false, false, false, false, false, false, false, false, false, false, false] rfl rfl (by kernel_rfl) (fun _ _ _ h => h) (Or.inl ⟨by rfl, ?_⟩) ?_ ?_
    rotate_left
    · intro w'
      go_simp
      with_reducible rfl
    rotate_left
    · simp only [Act.put, List.setIfInBounds_toArray, List.set_cons_zero, List.set_cons_succ, i64_w, i32_w]
      rfl
    refine pure_ (i := 4) (N := (some 46)) (v := ?_) (a' := ?_) #[true, true, true, false, true, false, false, false, false, false, false, false, false, false] rfl rfl (by kernel_rfl) (fun _ _ _ h => h) (Or.inl ⟨by rfl, ?_⟩) ?_ ?_
    rotate_left
    · intro w'
      go_simp
      with_reducible rfl
    rotate_left
    · simp only [Act.put, List.setIfInBounds_toArray, List.set_cons_zero, List.set_cons_succ, i64_w, i32_w]
      rfl
    refine pure_ (i := 9) (N := (some 51)) (v := ?_) (a' := ?_) #[true, true, true, false, true, false, false, false, false, true, false, false, false, false] rfl rfl (by kernel_rfl) (fun _ _ _ h => h) (Or.inl ⟨by rfl, ?_⟩) ?_ ?_
    rotate_left
    · intro w'
      go_simp
      with_reducible rfl
    rotate_left
    · simp only [Act.put, List.setIfInBounds_toArray, List.set_cons_zero, List.set_cons_succ, i64_w, i32_w]
      rfl
    refine pure_ (i := 10) (N := (some 52)) (v := ?_) (a' := ?_) #[true, true, true, false, true, false, false, false, false, true, true, false, false, false] rfl rfl (by kernel_rfl) (fun _ _ _ h => h) (Or.inl ⟨by rfl, ?_⟩) ?_ ?_
    rotate_left
    · intro w'
      go_simp
      with_reducible rfl
    rotate_left
    · simp only [Act.put, List.setIfInBounds_toArray, List.set_cons_zero, List.set_cons_succ, i64_w, i32_w]
      rfl
    refine pure_ (i := 11) (N := (some 53)) (v := ?_) (a' := ?_) #[true, true, true, false, true, false, false, false, false, true, true, true, false, false] rfl rfl (by kernel_rfl) (fun _ _ _ h => h) (Or.inl ⟨by rfl, ?_⟩) ?_ ?_
    rotate_left
    · intro w'
      go_simp
      with_reducible rfl
    rotate_left
    · simp only [Act.put, List.setIfInBounds_toArray, List.set_cons_zero, List.set_cons_succ, i64_w, i32_w]
      rfl
    refine join_ (σ := Value × Nat × Nat) 3 #[true, true, true, true, true, true, true, true, false, true, true, true, false, false] (fun s_ => [(45, s_.1), (47, .slice (some ⟨s_.2.1, 0, none⟩) 1 1), (49, .slice (some ⟨s_.2.2, 0, none⟩) 1 1), (48, .agg #[.slice (some ⟨s_.2.1, 0, none⟩) 1 1, .int .i64 0, .int .i64 0])]) (fun s_ w' => (True) ∧ Below W9.heap.size W9 w' ∧ (Kd.R Bt.kR 46 w' W9.heap.size (fun _ => True) s_.1 (hs.take k)) ∧ (w'.heap[s_.2.1]? = some (.cells #[.string ⟨#[]⟩, .string ⟨#[]⟩] 53 (0, 0))) ∧ (W9.heap.size ≤ s_.2.1) ∧ (w'.heap[s_.2.2]? = some (.cells #[.slice (some ⟨s_.2.1, 0, none⟩) 1 1, .int .i64 0, .int .i64 0] 46 (0, 0)))) ?_ ?_
    rotate_left
    · intro h3_5_7
      refine join_ (σ := Value × Nat) 4 #[true, true, true, true, true, true, true, false, false, true, true, true, false, false] (fun s_ => [(45, s_.1), (47, .slice (some ⟨s_.2, 0, none⟩) 1 1), (48, .agg #[.slice (some ⟨s_.2, 0, none⟩) 1 1, .int .i64 0, .int .i64 0])]) (fun s_ w' => (True) ∧ Below W9.heap.size W9 w' ∧ (Kd.R Bt.kR 46 w' W9.heap.size (fun _ => True) s_.1 (hs.take k)) ∧ (w'.heap[s_.2]? = some (.cells #[.string ⟨#[]⟩, .string ⟨#[]⟩] 53 (0, 0))) ∧ (W9.heap.size ≤ s_.2)) ?_ ?_
      rotate_left
      · intro h3_5
        refine join_ (σ := Nat × Nat) 4 #[true, true, true, false, true, true, true, true, false, true, true, true, false, false] (fun s_ => [(47, .slice (some ⟨s_.1, 0, none⟩) 1 1), (49, .slice (some ⟨s_.2, 0, none⟩) 1 1), (48, .agg #[.slice (some ⟨s_.1, 0, none⟩) 1 1, .int .i64 0, .int .i64 0])]) (fun s_ w' => (True) ∧ Below W9.heap.size W9 w' ∧ (w'.heap[s_.1]? = some (.cells #[.string ⟨#[]⟩, .string ⟨#[]⟩] 53 (0, 0))) ∧ (W9.heap.size ≤ s_.1) ∧ (w'.heap[s_.2]? = some (.cells #[.slice (some ⟨s_.1, 0, none⟩) 1 1, .int .i64 0, .int .i64 0] 46 (0, 0)))) ?_ ?_
        rotate_left
        · intro h5_7
          refine join_ (σ := Value) 6 #[true, true, true, true, true, false, false, false, false, true, true, true, false, false] (fun s_ => [(45, s_)]) (fun s_ w' => (True) ∧ Below W9.heap.size W9 w' ∧ (Kd.R Bt.kR 46 w' W9.heap.size (fun _ => True) s_ (hs.take k))) ?_ ?_
          rotate_left
          · intro h3
            refine join_ (σ := Nat) 5 #[true, true, true, false, true, true, true, false, false, true, true, true, false, false] (fun s_ => [(47, .slice (some ⟨s_, 0, none⟩) 1 1), (48, .agg #[.slice (some ⟨s_, 0, none⟩) 1 1, .int .i64 0, .int .i64 0])]) (fun s_ w' => (True) ∧ Below W9.heap.size W9 w' ∧ (w'.heap[s_]? = some (.cells #[.string ⟨#[]⟩, .string ⟨#[]⟩] 53 (0, 0))) ∧ (W9.heap.size ≤ s_)) ?_ ?_
            rotate_left
            · intro h5
              have HBd := Below.refl W9.heap.size W9
              refine two_ (i := 3) (j := 5) (Ni := (some 45)) (Nj := (some 47)) #[true, true, true, true, true, false, false, false, false, true, true, true, false, false] #[true, true, true, false, true, true, false, false, false, true, true, true, false, false] rfl rfl rfl rfl (by kernel_rfl) (by decide) (by decide) (fun K hK => ?_) (fun K hK => ?_)
              · skip
                refine Kd.R_append_rows_step Bt.kR (w0 := W9) W9.heap.size (by rfl) (.const (.slice none 0 0)) (.tmp 44) 48 46 (.agg #[.slice none 0 0, .int .i64 0, .int .i64 0]) 40 rfl Try.underlying48 info46 rfl (by decide) (by omega) (.slice none 0 0) ([] : List Bt.H) (hs.take k) _ _ _ (fun _ => True) (fun _ => False) rfl rfl (Kd.R_nil _ _ _ _ (fun _ => True)) (Kd.C_below HT.out HBd) (fun x cs h => h) (fun _ h => h.elim) (fun _ _ => trivial) HBd HBd.size (by have := HK100.out; simp only [List.length_nil]; omega) ?_
                intro v87 wn3 f3 hbA hgA _
                rw [List.nil_append] at f3
                have st_ : Below W9.heap.size W9 wn3 := ⟨hgA.os, hgA.tape, hgA.output, hgA.size, fun i hi => hgA.block i hi (by simp [Value.ownBlock])⟩
                clear hbA hgA
                have HBn := below_step HBd st_
                refine hK.out _ _ trivial (fun hHeld => ?_)
                clear hK K
                refine norm_ (a' := ?_) ?_ ?_
                rotate_left
                · show Act.put _ (some 45) _ = _
                  simp only [Act.put, List.setIfInBounds_toArray, List.set_cons_zero, List.set_cons_succ, i64_w, i32_w]
                  rfl
                exact norm_ (by simp only [putAll, Act.put, List.setIfInBounds_toArray, List.set_cons_zero, List.set_cons_succ]) (h3 (v87) _ ⟨hHeld, HBn, f3⟩)
              · skip
                refine event_step (w1 := W9.alloc (.cells #[.string ⟨#[]⟩, .string ⟨#[]⟩] 53)) (v := .slice (some ⟨W9.heap.size, 0, none⟩) 1 1) (by rfl) ?hr ?_
                (case hr => first | (go_simp; done) | (go_simp; rfl))
                obtain ⟨wn5, hwn⟩ : ∃ W, W = W9.alloc (.cells #[.string ⟨#[]⟩, .string ⟨#[]⟩] 53) := ⟨_, rfl⟩
                have st_ : Below W9.heap.size W9 wn5 := by rw [hwn]; exact below_alloc (Below.refl _ _) _
                have f5 : wn5.heap[W9.heap.size]? = some (.cells #[.string ⟨#[]⟩, .string ⟨#[]⟩] 53 (0, 0)) := by rw [hwn]; exact blk_new _ _
                obtain ⟨g1, hg1⟩ : ∃ g, g = W9.heap.size := ⟨_, rfl⟩
                have f5n : W9.heap.size ≤ g1 := by rw [hg1]; exact HBd.size
                rw [← hg1] at f5 ⊢
                rw [← hwn]
                clear hwn hg1
                have HBn := below_step HBd st_
                refine hK.out _ _ trivial (fun hHeld => ?_)
                clear hK K
                refine norm_ (a' := ?_) ?_ ?_
                rotate_left
                · show Act.put _ (some 47) _ = _
                  simp only [Act.put, List.setIfInBounds_toArray, List.set_cons_zero, List.set_cons_succ, i64_w, i32_w]
                  rfl
                refine pure_ (i := 6) (N := (some 48)) (v := ?_) (a' := ?_) #[true, true, true, false, true, true, true, false, false, true, true, true, false, false] rfl rfl (by kernel_rfl) (fun _ _ _ h => h) (Or.inl ⟨by rfl, ?_⟩) ?_ ?_
                rotate_left
                · intro w'
                  go_simp
                  with_reducible rfl
                rotate_left
                · simp only [Act.put, List.setIfInBounds_toArray, List.set_cons_zero, List.set_cons_succ, i64_w, i32_w]
                  rfl
                exact norm_ (by simp only [putAll, Act.put, List.setIfInBounds_toArray, List.set_cons_zero, List.set_cons_succ]) (h5 (g1) _ ⟨hHeld, HBn, f5, f5n⟩)
            rintro g1 wx ⟨hHeld, HBd, f5, f5n⟩
            refine norm_ (a' := ?_) ?_ ?_
            rotate_left
            · simp only [putAll, Act.put, List.setIfInBounds_toArray, List.set_cons_zero, List.set_cons_succ]
              rfl
            refine two_ (i := 3) (j := 7) (Ni := (some 45)) (Nj := (some 49)) #[true, true, true, true, true, true, true, false, false, true, true, true, false, false] #[true, true, true, false, true, true, true, true, false, true, true, true, false, false] rfl rfl rfl rfl (by kernel_rfl) (by decide) (by decide) (fun K hK => ?_) (fun K hK => ?_)
            · skip
              refine Kd.R_append_rows_step Bt.kR (w0 := W9) W9.heap.size (by rfl) (.const (.slice none 0 0)) (.tmp 44) 48 46 (.agg #[.slice none 0 0, .int .i64 0, .int .i64 0]) 40 rfl Try.underlying48 info46 rfl (by decide) (by omega) (.slice none 0 0) ([] : List Bt.H) (hs.take k) _ _ _ (fun _ => True) (fun _ => False) rfl rfl (Kd.R_nil _ _ _ _ (fun _ => True)) (Kd.C_below HT.out HBd) (fun x cs h => h) (fun _ h => h.elim) (fun _ _ => trivial) HBd HBd.size (by have := HK100.out; simp only [List.length_nil]; omega) ?_
              intro v87 wn3 f3 hbA hgA _
              rw [List.nil_append] at f3
              have st_ : Below wx.heap.size wx wn3 := ⟨hgA.os, hgA.tape, hgA.output, hgA.size, fun i hi => hgA.block i hi (by simp [Value.ownBlock])⟩
              clear hbA hgA
              have HBn := below_step HBd st_
              have n_f5 := blk_below f5 st_
              have n_f5n := (fun h _ => h) f5n st_
              refine hK.out _ _ trivial (fun hHeld => ?_)
              clear hK K
              refine norm_ (a' := ?_) ?_ ?_
              rotate_left
              · show Act.put _ (some 45) _ = _
                simp only [Act.put, List.setIfInBounds_toArray, List.set_cons_zero, List.set_cons_succ, i64_w, i32_w]
                rfl
              exact norm_ (by simp only [putAll, Act.put, List.setIfInBounds_toArray, List.set_cons_zero, List.set_cons_succ]) (h3_5 (v87, g1) _ ⟨hHeld, HBn, f3, n_f5, n_f5n⟩)
            · skip
              refine event_step (w1 := wx.alloc (.cells #[.slice (some ⟨g1, 0, none⟩) 1 1, .int .i64 0, .int .i64 0] 46)) (v := .slice (some ⟨wx.heap.size, 0, none⟩) 1 1) (by rfl) ?hr ?_
              (case hr => first | (go_simp; done) | (go_simp; rfl))
              obtain ⟨wn7, hwn⟩ : ∃ W, W = wx.alloc (.cells #[.slice (some ⟨g1, 0, none⟩) 1 1, .int .i64 0, .int .i64 0] 46) := ⟨_, rfl⟩
              have st_ : Below wx.heap.size wx wn7 := by rw [hwn]; exact below_alloc (Below.refl _ _) _
              have f7 : wn7.heap[wx.heap.size]? = some (.cells #[.slice (some ⟨g1, 0, none⟩) 1 1, .int .i64 0, .int .i64 0] 46 (0, 0)) := by rw [hwn]; exact blk_new _ _
              obtain ⟨g2, hg2⟩ : ∃ g, g = wx.heap.size := ⟨_, rfl⟩
              rw [← hg2] at f7 ⊢
              rw [← hwn]
              clear hwn hg2
              have HBn := below_step HBd st_
              have n_f5 := blk_below f5 st_
              have n_f5n := (fun h _ => h) f5n st_
              refine hK.out _ _ trivial (fun hHeld => ?_)
              clear hK K
              refine norm_ (a' := ?_) ?_ ?_
              rotate_left
              · show Act.put _ (some 49) _ = _
                simp only [Act.put, List.setIfInBounds_toArray, List.set_cons_zero, List.set_cons_succ, i64_w, i32_w]
                rfl
              exact norm_ (by simp only [putAll, Act.put, List.setIfInBounds_toArray, List.set_cons_zero, List.set_cons_succ]) (h5_7 (g1, g2) _ ⟨hHeld, HBn, n_f5, n_f5n, f7⟩)
          rintro v87 wx ⟨hHeld, HBd, f3⟩
          refine norm_ (a' := ?_) ?_ ?_
          rotate_left
          · simp only [putAll, Act.put, List.setIfInBounds_toArray, List.set_cons_zero, List.set_cons_succ]
            rfl
          refine one_ (i := 5) (N := (some 47)) #[true, true, true, true, true, true, false, false, false, true, true, true, false, false] rfl rfl (by kernel_rfl) (by decide) (fun K hK => ?_)
          refine event_step (w1 := wx.alloc (.cells #[.string ⟨#[]⟩, .string ⟨#[]⟩] 53)) (v := .slice (some ⟨wx.heap.size, 0, none⟩) 1 1) (by rfl) ?hr ?_
          (case hr => first | (go_simp; done) | (go_simp; rfl))
          obtain ⟨wn5, hwn⟩ : ∃ W, W = wx.alloc (.cells #[.string ⟨#[]⟩, .string ⟨#[]⟩] 53) := ⟨_, rfl⟩
          have st_ : Below wx.heap.size wx wn5 := by rw [hwn]; exact below_alloc (Below.refl _ _) _
          have f5 : wn5.heap[wx.heap.size]? = some (.cells #[.string ⟨#[]⟩, .string ⟨#[]⟩] 53 (0, 0)) := by rw [hwn]; exact blk_new _ _
          obtain ⟨g1, hg1⟩ : ∃ g, g = wx.heap.size := ⟨_, rfl⟩
          have f5n : W9.heap.size ≤ g1 := by rw [hg1]; exact HBd.size
          rw [← hg1] at f5 ⊢
          rw [← hwn]
          clear hwn hg1
          have HBn := below_step HBd st_
          have n_f3 := Kd.R_below f3 st_
          refine hK.out _ _ trivial (fun hHeld => ?_)
          clear hK K
          refine norm_ (a' := ?_) ?_ ?_
          rotate_left
          · show Act.put _ (some 47) _ = _
            simp only [Act.put, List.setIfInBounds_toArray, List.set_cons_zero, List.set_cons_succ, i64_w, i32_w]
            rfl
          refine pure_ (i := 6) (N := (some 48)) (v := ?_) (a' := ?_) #[true, true, true, true, true, true, true, false, false, true, true, true, false, false] rfl rfl (by kernel_rfl) (fun _ _ _ h => h) (Or.inl ⟨by rfl, ?_⟩) ?_ ?_
          rotate_left
          · intro w'
            go_simp
            with_reducible rfl
          rotate_left
          · simp only [Act.put, List.setIfInBounds_toArray, List.set_cons_zero, List.set_cons_succ, i64_w, i32_w]
            rfl
          exact norm_ (by simp only [putAll, Act.put, List.setIfInBounds_toArray, List.set_cons_zero, List.set_cons_succ]) (h3_5 (v87, g1) _ ⟨hHeld, HBn, n_f3, f5, f5n⟩)
        rintro ⟨g1, g2⟩ wx ⟨hHeld, HBd, f5, f5n, f7⟩
        refine norm_ (a' := ?_) ?_ ?_
        rotate_left
        · simp only [putAll, Act.put, List.setIfInBounds_toArray, List.set_cons_zero, List.set_cons_succ]
          rfl
        refine one_ (i := 3) (N := (some 45)) #[true, true, true, true, true, true, true, true, false, true, true, true, false, false] rfl rfl (by kernel_rfl) (by decide) (fun K hK => ?_)
        refine Kd.R_append_rows_step Bt.kR (w0 := W9) W9.heap.size (by rfl) (.const (.slice none 0 0)) (.tmp 44) 48 46 (.agg #[.slice none 0 0, .int .i64 0, .int .i64 0]) 40 rfl Try.underlying48 info46 rfl (by decide) (by omega) (.slice none 0 0) ([] : List Bt.H) (hs.take k) _ _ _ (fun _ => True) (fun _ => False) rfl rfl (Kd.R_nil _ _ _ _ (fun _ => True)) (Kd.C_below HT.out HBd) (fun x cs h => h) (fun _ h => h.elim) (fun _ _ => trivial) HBd HBd.size (by have := HK100.out; simp only [List.length_nil]; omega) ?_
        intro v87 wn3 f3 hbA hgA _
        rw [List.nil_append] at f3
        have st_ : Below wx.heap.size wx wn3 := ⟨hgA.os, hgA.tape, hgA.output, hgA.size, fun i hi => hgA.block i hi (by simp [Value.ownBlock])⟩
        clear hbA hgA
        have HBn := below_step HBd st_
        have n_f5 := blk_below f5 st_
        have n_f5n := (fun h _ => h) f5n st_
        have n_f7 := blk_below f7 st_
        refine hK.out _ _ trivial (fun hHeld => ?_)
        clear hK K
        refine norm_ (a' := ?_) ?_ ?_
        rotate_left
        · show Act.put _ (some 45) _ = _
          simp only [Act.put, List.setIfInBounds_toArray, List.set_cons_zero, List.set_cons_succ, i64_w, i32_w]
          rfl
        exact norm_ (by simp only [putAll, Act.put, List.setIfInBounds_toArray, List.set_cons_zero, List.set_cons_succ]) (h3_5_7 (v87, g1, g2) _ ⟨hHeld, HBn, f3, n_f5, n_f5n, n_f7⟩)
      rintro ⟨v87, g1⟩ wx ⟨hHeld, HBd, f3, f5, f5n⟩
      refine norm_ (a' := ?_) ?_ ?_
      rotate_left
      · simp only [putAll, Act.put, List.setIfInBounds_toArray, List.set_cons_zero, List.set_cons_succ]
        rfl
      refine one_ (i := 7) (N := (some 49)) #[true, true, true, true, true, true, true, true, false, true, true, true, false, false] rfl rfl (by kernel_rfl) (by decide) (fun K hK => ?_)
      refine event_step (w1 := wx.alloc (.cells #[.slice (some ⟨g1, 0, none⟩) 1 1, .int .i64 0, .int .i64 0] 46)) (v := .slice (some ⟨wx.heap.size, 0, none⟩) 1 1) (by rfl) ?hr ?_
      (case hr => first | (go_simp; done) | (go_simp; rfl))
      obtain ⟨wn7, hwn⟩ : ∃ W, W = wx.alloc (.cells #[.slice (some ⟨g1, 0, none⟩) 1 1, .int .i64 0, .int .i64 0] 46) := ⟨_, rfl⟩
      have st_ : Below wx.heap.size wx wn7 := by rw [hwn]; exact below_alloc (Below.refl _ _) _
      have f7 : wn7.heap[wx.heap.size]? = some (.cells #[.slice (some ⟨g1, 0, none⟩) 1 1, .int .i64 0, .int .i64 0] 46 (0, 0)) := by rw [hwn]; exact blk_new _ _
      obtain ⟨g2, hg2⟩ : ∃ g, g = wx.heap.size := ⟨_, rfl⟩
      rw [← hg2] at f7 ⊢
      rw [← hwn]
      clear hwn hg2
      have HBn := below_step HBd st_
      have n_f3 := Kd.R_below f3 st_
      have n_f5 := blk_below f5 st_
      have n_f5n := (fun h _ => h) f5n st_
      refine hK.out _ _ trivial (fun hHeld => ?_)
      clear hK K
      refine norm_ (a' := ?_) ?_ ?_
      rotate_left
      · show Act.put _ (some 49) _ = _
        simp only [Act.put, List.setIfInBounds_toArray, List.set_cons_zero, List.set_cons_succ, i64_w, i32_w]
        rfl
      exact norm_ (by simp only [putAll, Act.put, List.setIfInBounds_toArray, List.set_cons_zero, List.set_cons_succ]) (h3_5_7 (v87, g1, g2) _ ⟨hHeld, HBn, n_f3, n_f5, n_f5n, f7⟩)
    rintro ⟨v87, g1, g2⟩ wx ⟨hHeld, HBd, f3, f5, f5n, f7⟩
    refine norm_ (a' := ?_) ?_ ?_
    rotate_left
    · simp only [putAll, Act.put, List.setIfInBounds_toArray, List.set_cons_zero, List.set_cons_succ]
      rfl
    refine one_ (i := 8) (N := (some 50)) #[true, true, true, true, true, true, true, true, true, true, true, true, false, false] rfl rfl (by kernel_rfl) (by decide) (fun K hK => ?_)
    refine Kd.R_append_rows_step Bt.kR (w0 := W9) W9.heap.size (by rfl) (.tmp 45) (.tmp 49) 48 46 (.agg #[.slice none 0 0, .int .i64 0, .int .i64 0]) 40 rfl Try.underlying48 info46 rfl (by decide) (by omega) v87 (hs.take k) [(⟨some ⟨g1, 0, none⟩, 1, Bt.bad⟩ : Bt.H)] _ _ _ (fun _ => True) (fun _ => False) rfl rfl f3 (Bt.badC f7) (fun x cs h => h) (fun _ h => h.elim) (fun _ _ => trivial) HBd HBd.size (by have := HK100.out; rw [HTL.out]; omega) ?_
    intro v50 w10 h50 hb10 hg10 _
    have f5' := (hg10.block g1 (blk_lt f5) (Kd.R_ne f3 f5 (by decide))).trans f5
    refine hK.out _ _ trivial (fun hHeld => ?_)
    clear hK K f3 f5 f7 HBd hg10
    refine norm_ (a' := ?_) ?_ ?_
    rotate_left
    · show Act.put _ (some 50) _ = _
      simp only [Act.put, List.setIfInBounds_toArray, List.set_cons_zero, List.set_cons_succ, i64_w, i32_w]
      rfl
    refine one_ (i := 12) (N := (some 54)) #[true, true, true, true, true, true, true, true, true, true, true, true, true, false] rfl rfl (by kernel_rfl) (by decide) (fun K hK => ?_)
    refine Kd.R_append_rows_step Bt.kR (w0 := W9) W9.heap.size (by rfl) (.tmp 50) (.tmp 53) 48 46 (.agg #[.slice none 0 0, .int .i64 0, .int .i64 0]) 40 rfl Try.underlying48 info46 rfl (by decide) (by omega) v50 (hs.take k ++ [(⟨some ⟨g1, 0, none⟩, 1, Bt.bad⟩ : Bt.H)]) (hs.drop k) _ _ _ (fun _ => True) (fun _ => False) rfl rfl h50 (Kd.C_below HDR.out hb10) (fun x cs h => h) (fun _ h => h.elim) (fun _ _ => trivial) hb10 hb10.size (by have := HK100.out; have := HN100.out; rw [List.length_append, HTL.out, List.length_singleton]; omega) ?_
    intro v54 w12 h54 hb12 hg12 _
    have f5'' := (hg12.block g1 (blk_lt f5') (Kd.R_ne h50 f5' (by decide))).trans f5'
    refine hK.out _ _ trivial (fun hHeld => ?_)
    clear hK K h50 f5' hb10 hg12
    refine norm_ (a' := ?_) ?_ ?_
    rotate_left
    · show Act.put _ (some 54) _ = _
      simp only [Act.put, List.setIfInBounds_toArray, List.set_cons_zero, List.set_cons_succ, i64_w, i32_w]
      rfl
    refine pure_ (i := 13) (N := (some 10)) (v := ?_) (a' := ?_) #[true, true, true, true, true, true, true, true, true, true, true, true, true, true] rfl rfl (by kernel_rfl) (fun _ _ _ h => h) (Or.inl ⟨by rfl, ?_⟩) ?_ ?_
    rotate_left
    · intro w'
      go_simp
      with_reducible rfl
    rotate_left
    · simp only [Act.put, List.setIfInBounds_toArray, List.set_cons_zero, List.set_cons_succ, i64_w, i32_w]
      rfl
    refine done_ (by kernel_rfl) ?_
    obtain ⟨A54, c54, e54⟩ := Kd.R_slice h54
    subst e54
    have HF := Aside0.mk (Bt.batchF (w := w) h54 (fun h hh W' hW => by
      rcases List.mem_append.1 hh with hh | hh
      · rcases List.mem_append.1 hh with hh | hh
        · exact Bt.HV.old (hvw h (List.mem_of_mem_take hh)) (below_step HB9.out hb12) hW
        · rw [List.mem_singleton.1 hh]
          exact Bt.HV.bad f5'' f5n hW
      · exact Bt.HV.old (hvw h (List.mem_of_mem_drop hh)) (below_step HB9.out hb12) hW))
    have HBL := Aside0.mk (below_step HB9.out hb12)
    have HLB := Aside0.mk (show (hs.take k ++ [(⟨some ⟨g1, 0, none⟩, 1, Bt.bad⟩ : Bt.H)] ++ hs.drop k).map (·.x) = l.take k ++ [Bt.bad] ++ l.drop k by rw [List.map_append, List.map_append, List.map_take, List.map_drop, hx]; rfl)
    obtain ⟨e1, he1, hw1⟩ := Bt.bad_write 9007199254740992 (l.take k) (l.drop k) (by have := HN100.out; have := HLN.out; rw [List.length_take, List.length_drop]; omega)
    have hln1 : (hs.take k ++ [(⟨some ⟨g1, 0, none⟩, 1, Bt.bad⟩ : Bt.H)] ++ hs.drop k).length = (l.take k ++ [Bt.bad] ++ l.drop k).length := by rw [← HLB.out, List.length_map]
    have hcap := (Kd.R_reads' h54).2.1
    have hF' := HF.out
    rw [HLB.out, hln1] at hF'
    rw [hln1] at hcap
    obtain ⟨HRa, HRb, HRc, nab, nac, nbc, nok, s1, s2, s3⟩ := Bt.three HB1.out HHa.out HHb.out HHc.out HB12.out HB23.out HB34.out HB49.out hb12
    have hwa := head_Write.calls A54 c54 _ w12 HRa _ hF' (fun k hk _ => nok k hk) hcap (by show 0 + 200 ≤ _; omega)
    rw [show Hd.abs ([] : List Hd.Ent) = [] from rfl, hw1] at hwa
    have HWA := Aside0.mk hwa
    rw [hln1]
    obtain ⟨n1, hn1⟩ : ∃ n1, n1 = (l.take k ++ [Bt.bad] ++ l.drop k).length := ⟨_, rfl⟩
    rw [← hn1] at HWA ⊢
    have HRA := Aside0.mk HRa
    have HRB := Aside0.mk HRb
    have HRC := Aside0.mk HRc
    have NAB := Aside0.mk nab
    have NAC := Aside0.mk nac
    have NBC := Aside0.mk nbc
    have S1 := Aside0.mk s1
    have S2_ := Aside0.mk s2
    have S3_ := Aside0.mk s3
    have HE1 := Aside0.mk he1
    clear h54 f5'' f5n hb12 hln1 hcap hF' HRa HRb HRc nab nac nbc nok s1 s2 s3 hwa hn1 hw1 he1 HF HLB HHa HHb HHc HB12 HB23 HB34 HB49 HKC HT HTL HDR HB1 HB2 HB3 HB4 HB0 hcut hvw hkw HK100
    go_upto_region 10 with (go_at_call 23; (with_reducible refine HWA.out.mono ?_); rintro e W5 ⟨rfl, S1', hh, ha, hf⟩; have HH5 := Aside0.mk hh; have HA5 := Aside0.mk ha; have HF5 := Aside0.mk hf; clear hh ha hf)
    have hS1 : S1' = [] := List.map_eq_nil_iff.1 HA5.out
    subst hS1
    obtain ⟨hb5, nba5⟩ := Bt.beside HRB.out HF5.out (fun k hk hk2 => NAB.out k hk2 hk)
    obtain ⟨hc5, nca5⟩ := Bt.beside HRC.out HF5.out (fun k hk hk2 => NAC.out k hk2 hk)
    have HRB5 := Aside0.mk hb5
    have HRC5 := Aside0.mk hc5
    have HB5 := Aside0.mk (Below.trans HBL.out (HF5.out.below (fun k hk => Nat.le_trans S1.out (HRA.out.lt k hk).1) HBL.out.size))
    obtain ⟨e2, L2, hwl⟩ : ∃ e2 L2, Hd.writeF 9007199254740992 [] l = (e2, L2) := ⟨_, _, rfl⟩
    have hwb := head_Write.calls A c l W5 hb5 _ (Kd.F_below (Kd.C_F Bt.heap46 HC.out) HB5.out) (fun k hk _ ho => by have := (hb5.lt k ho).1; have := S2_.out; omega) HCC.out (by show 0 + 200 ≤ _; omega)
    rw [show Hd.abs ([] : List Hd.Ent) = [] from rfl, hwl, ← HLN.out] at hwb
    have HWB := Aside0.mk hwb
    have HWL := Aside0.mk hwl
    have HNAB5 := Aside0.mk (fun k h1 h2 => nba5 k h2 h1)
    clear hb5 hc5 nba5 nca5 hwb hwl HRA HRB HRC HWA HA5
    go_upto_region 11 with (go_at_call 23; (with_reducible refine HWB.out.mono ?_); rintro e W6 ⟨rfl, S2, hh, ha, hf⟩; have HH6 := Aside0.mk hh; have HA6 := Aside0.mk ha; have HF6 := Aside0.mk hf; clear hh ha hf)
    obtain ⟨ha6, nab6⟩ := Bt.beside HH5.out HF6.out HNAB5.out
    obtain ⟨hc6, ncb6⟩ := Bt.beside HRC5.out HF6.out (fun k hk hk2 => NBC.out k hk2 hk)
    have HRA6 := Aside0.mk ha6
    have HRC6 := Aside0.mk hc6
    have NCB6 := Aside0.mk ncb6
    have HB6 := Aside0.mk (Below.trans HB5.out (HF6.out.below (fun k hk => Nat.le_trans S2_.out (HRB5.out.lt k hk).1) HB5.out.size))
    clear ha6 nab6 hc6 ncb6 HRC5 HRB5 HH5 HWB HNAB5
    have HCNT0 := Aside0.mk (fun W (h : Hd.HR W1.heap.size h1b m1b 9007199254740992 [] W) => show Calls Try.prog 30 #[.pointer (some ⟨h1b, 0, none⟩)] W fun e w' => e = .returned (.int .i64 0) ∧ w' = W from head_Count.calls h)
    have HALL0 := Aside0.mk (fun W (h : Hd.HR W1.heap.size h1b m1b 9007199254740992 [] W) => show Calls Try.prog 31 #[.pointer (some ⟨h1b, 0, none⟩)] W fun e w' => (∃ A c, e = .returned (.slice A 0 c)) ∧ Below W.heap.size W w' from (head_All.calls h (by show 0 < _; omega)).mono (by rintro e w' ⟨A, c, rfl, _, hb⟩; exact ⟨⟨A, c, rfl⟩, hb⟩))
    have hz1 : (e1 == 0) = false := beq_eq_false_iff_ne.2 HE1.out
    go_upto_region 13 with (first
      | (go_at_call 25; (with_reducible refine (HNUM.out _ W6).mono ?_); rintro e W7 ⟨rfl, hb⟩; have HB7 := Aside0.mk hb; clear hb)
      | (go_at_call 30; (with_reducible refine (HCNT0.out _ (HRA6.out.below HB7.out)).mono ?_); rintro e W8 ⟨rfl, rfl⟩)
      | (go_at_call 31; (with_reducible refine (HALL0.out _ (HRA6.out.below HB7.out)).mono ?_); rintro e W8 ⟨⟨A8, c8, rfl⟩, hb⟩; have HB8 := Aside0.mk (below_step HB7.out hb); clear hb))
    clear HCNT0 HALL0 HE1 hz1 HF5 HF6 HBL
    have HB8' := Aside0.mk (below_step HB6.out HB8.out)
    by_cases he2 : e2 = 0
    · subst he2
      obtain ⟨hask, hl200⟩ := Bt.taken (show (Hd.writeF 9007199254740992 [] l).1 = 0 by rw [HWL.out])
      rw [HWL.out] at hask
      have HASK := Aside0.mk hask
      have HOK0 := Aside0.mk HRC6.out.ok
      go_upto_region 15 with (go_at_call 25; (with_reducible refine (HNUM.out _ W8).mono ?_); rintro e W9 ⟨rfl, hb⟩; have HB9 := Aside0.mk (below_step HB8.out hb); clear hb)
      have HRC9 := Aside0.mk (HRC6.out.below HB9.out)
      have HRB9 := Aside0.mk (HH6.out.below HB9.out)
      have HB9' := Aside0.mk (below_step HB6.out HB9.out)
      clear HRC6 HH6 HRA6 hask hl200 HB8 HB8' HB7 HB6 HB9
      go_wp2
      go_loopg [13] n (fun kx v13 wr => ∃ (i : Nat) (S3 : List Hd.Ent), v13 = .int .i64 i ∧ i ≤ n ∧ n - i ≤ kx ∧ Aside0 (Hd.HR W3.heap.size h3b m3b 9007199254740992 S3 wr) ∧ Aside0 (Hd.abs S3 = Bt.st 9007199254740992 l i) ∧ Aside0 (Hd.HR W2.heap.size h2b m2b 9007199254740992 S2 wr) ∧ Aside0 (∀ k, Hd.Own h2b m2b S2 k → ¬ Hd.Own h3b m3b S3 k) ∧ Aside0 (Below w.heap.size w wr))
      case atStart => exact ⟨0, [], rfl, Nat.zero_le _, Nat.le_refl _, HRC9, ⟨rfl⟩, HRB9, ⟨fun k h1 h2 => NCB6.out k h2 h1⟩, HB9'⟩
      case round =>
        clear HRC9 HRB9 HB9' NCB6
        obtain ⟨i, S3, rfl, hi, hix, HRC9, HA9, HRB9, NBC9, HB9⟩ := hrel
        have hct3 : Hd.cnt (Hd.abs S3) ≤ 100 := by
          have h1 := (Bt.cnt_ask HOK0.out (Bt.st_ok HASK.out i)).2
          rw [HA9.out]
          have h2 : (l.take i).length ≤ l.length := by rw [List.length_take]; omega
          have h3 : Hd.cnt (Hd.abs ([] : List Hd.Ent)) = 0 := rfl
          have := HN100.out
          have := HLN.out
          omega
        by_cases hlt : i < n
        · have hltz : (i : Int) < (n : Int) := by omega
          have hil : i < l.length := by have := HLN.out; omega
          have hci : ¬ c = i := by have := HLN.out; have := HCC.out; omega
          have hF1 := Bt.cutF (Kd.F_below (Kd.C_F Bt.heap46 HC.out) HB9.out) hil HCC.out
          rw [if_neg hci] at hF1
          have hwc := head_Write.calls (A.map (·.add (i * 3))) (c - i) [l[i]] wr HRC9.out _ hF1 (fun k hk _ ho => by have := (HRC9.out.lt k ho).1; have := S3_.out; omega) (by show 1 ≤ _; omega) (by omega)
          rw [HA9.out, Bt.st_step HASK.out i hil] at hwc
          have HWC := Aside0.mk (show Calls Try.prog 23 #[.pointer (some ⟨h3b, 0, none⟩), .slice (A.map (·.add (i * 3))) 1 (c - i)] wr _ from hwc)
          clear hwc hF1 hct3
          go_upto_region 19 with (go_at_call 23; (with_reducible refine HWC.out.mono ?_); rintro e W10 ⟨rfl, S4, hh, ha, hf⟩; have HH10 := Aside0.mk hh; have HA10 := Aside0.mk ha; have HF10 := Aside0.mk hf; clear hh ha hf)
          go_upto_region 17 with (go_at_call 25; (with_reducible refine (HNUM.out _ W10).mono ?_); rintro e W11 ⟨rfl, hb⟩; have HB11 := Aside0.mk hb; clear hb)
          obtain ⟨hb10, nbc10⟩ := Bt.beside HRB9.out HF10.out NBC9.out
          have HRB10 := Aside0.mk hb10
          have NBC10 := Aside0.mk nbc10
          have HB10 := Aside0.mk (Below.trans HB9.out (HF10.out.below (fun k hk => Nat.le_trans S3_.out (HRC9.out.lt k hk).1) HB9.out.size))
          clear hb10 nbc10 hci
          go_wp2
          go_roundg (n - (i + 1))
          case measure => omega
          case rel => exact ⟨i + 1, S4, by go_num, hlt, Nat.le_refl _, ⟨HH10.out.below HB11.out⟩, HA10, ⟨HRB10.out.below HB11.out⟩, NBC10, ⟨below_step HB10.out HB11.out⟩⟩
        · have hin : n = i := by omega
          subst hin
          clear hlt hi hix
          have hst : Hd.abs S3 = L2 := by rw [HA9.out, HLN.out, Bt.st_all HASK.out]
          have hctb : Hd.cnt (Hd.abs S2) < 1099511627776 := by rw [HA6.out, ← hst]; omega
          have hlen : (Hd.out L2).length = L2.length := by unfold Hd.out; rw [List.length_map]
          have hl2 : L2.length ≤ 1000 := by have := HRC9.out.ok.len; rw [hst] at this; exact this
          have HALB := Aside0.mk (head_All.calls HRB9.out hctb)
          have HALC := Aside0.mk (fun W (hb : Below wr.heap.size wr W) => head_All.calls (HRC9.out.below hb) (by omega))
          have HCB := Aside0.mk (fun W (hb : Below wr.heap.size wr W) => head_Count.calls (HRB9.out.below hb))
          have HCC2 := Aside0.mk (fun W (hb : Below wr.heap.size wr W) => head_Count.calls (HRC9.out.below hb))
          have HMM := Aside0.mk (show ∀ y ∈ Hd.out L2, y.f0.length ≤ 1152921504606846976 ∧ y.f1.length ≤ 1152921504606846976 from fun y hy => by
            obtain ⟨p, hp, rfl⟩ := List.mem_map.1 hy
            rw [← hst] at hp
            have h1 := Hd.made_len (HRC9.out.ok.made p hp)
            have h2 := Hd.len_le_cnt hp
            dsimp only
            omega)
          rw [HA6.out] at HALB HCB
          rw [hst] at HALC HCC2
          obtain ⟨q, hq⟩ : ∃ q : Int, q = (Hd.cnt L2 : Nat) := ⟨_, rfl⟩
          rw [← hq] at HCB HCC2
          obtain ⟨m, hm⟩ : ∃ m, m = L2.length := ⟨_, rfl⟩
          rw [← hm] at HALB HALC
          have HSM := Aside0.mk (show ∀ (A0 A1 : Option Addr) (c0 c1 : Nat) (W : World), Kd.C k68 W A0 (Hd.out L2).length (Hd.out L2) → Kd.C k68 W A1 (Hd.out L2).length (Hd.out L2) → m ≤ c0 → m ≤ c1 → Calls Try.prog 32 #[.slice A0 m c0, .slice A1 m c1] W fun e w' => e = .returned (.bool true) ∧ Below W.heap.size W w' from fun A0 A1 c0 c1 W h0 h1 h2 h3 => by
            have hm2 : m = (Hd.out L2).length := by rw [hlen]; exact hm
            rw [hm2] at h2 h3 ⊢
            exact Bt.same A0 A1 c0 c1 _ W h0 h1 h2 h3 (by omega) HMM.out)
          clear hst hctb hlen hl2 hq hm hct3
          go_wp2_with (first
            | (go_at_call 31; (with_reducible refine HALB.out.mono ?_); rintro e W10 ⟨A10, c10, rfl, hr, hb⟩; have HR10 := Aside0.mk hr; have HB10 := Aside0.mk hb; clear hr hb)
            | (go_at_call 31; (with_reducible refine (HALC.out _ HB10.out).mono ?_); rintro e W11 ⟨A11, c11, rfl, hr, hb⟩; have HR11 := Aside0.mk hr; have HB11 := Aside0.mk hb; have HR10' := Aside0.mk (Kd.R_below HR10.out hb); clear hr hb)
            | (go_at_call 32; (with_reducible refine (HSM.out _ _ _ _ _ (Kd.R_reads' HR10'.out).2.2 (Kd.R_reads' HR11.out).2.2 (Kd.R_reads' HR10'.out).2.1 (Kd.R_reads' HR11.out).2.1).mono ?_); rintro e W12 ⟨rfl, hb⟩; have HB12 := Aside0.mk (below_step (below_step HB10.out HB11.out) hb); clear hb)
            | (go_at_call 30; (with_reducible refine (HCB.out _ HB12.out).mono ?_); rintro e W13 ⟨rfl, rfl⟩)
            | (go_at_call 30; (with_reducible refine (HCC2.out _ HB12.out).mono ?_); rintro e W14 ⟨rfl, rfl⟩))
          go_ret
          exact ⟨by simp, below_step HB9.out HB12.out⟩
    · have hL2 : L2 = [] := by
        have h1 := Bt.refused (win := 9007199254740992) (L := []) (rows := l) (by rw [HWL.out]; exact he2)
        rw [HWL.out] at h1
        exact h1
      have hS2 : S2 = [] := List.map_eq_nil_iff.1 (HA6.out.trans hL2)
      subst hS2
      have HCNT := Aside0.mk (fun W (h : Hd.HR W2.heap.size h2b m2b 9007199254740992 [] W) => show Calls Try.prog 30 #[.pointer (some ⟨h2b, 0, none⟩)] W fun e w' => e = .returned (.int .i64 0) ∧ w' = W from head_Count.calls h)
      have hz2 : (e2 != 0) = true := bne_iff_ne.2 he2
      clear hL2
      go_wp2_with (first
        | (go_at_call 25; (with_reducible refine (HNUM.out _ W8).mono ?_); rintro e W9 ⟨rfl, hb⟩; have HB9 := Aside0.mk (below_step HB8.out hb); clear hb)
        | (go_at_call 30; (with_reducible refine (HCNT.out _ (HH6.out.below HB9.out)).mono ?_); rintro e W10 ⟨rfl, rfl⟩))
      go_ret
      exact ⟨rfl, below_step HB6.out HB9.out⟩
end
end Go.Proofs.Ytcgocdhffcnleaa.PHead
