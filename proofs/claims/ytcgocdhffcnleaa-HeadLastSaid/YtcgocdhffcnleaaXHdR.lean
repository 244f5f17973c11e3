/- A part of the proofs about the head: see the theorems' own lines. -/
import Derived.Test.YtcgocdhffcnleaaXHdQ
import Derived.Test.YtcgocdhffcnleaaPHeadPlaysx5
import Derived.Lib.Overlaps
import Derived.Laws.CopyOwn
import Derived.Laws.IdiomCopy
import Derived.Lib.AppendZeros
import Derived.StillTailTactics
import Derived.Outline
namespace Go.Proofs.Ytcgocdhffcnleaa.PHead
open Go Go.RowKit Go.Proofs.YtcgocdhffcnleaaW.PrintWords Go.Proofs.YtcgocdhffcnleaaW.PrintLast Go.Proofs.YtcgocdhffcnleaaW.PrintMore Go.Proofs.Ytcgocdhffcnleaa.XB Go.Proofs.Ytcgocdhffcnleaa.PHeadPlays Go.Proofs.Ytcgocdhffcnleaa.XH
set_option linter.unusedVariables false
set_option linter.unusedSimpArgs false
/-! ### writing rows that were just laid -/
section
theorem rowsF {W : World} {g : Nat} {fr : List (Value × S46)} (hg : W.heap[g]? = some (.cells ((fr.flatMap fun q => [q.1, .int .i64 q.2.f1.f0, .int .i64 q.2.f1.f1]).toArray) 46 (0, 0))) {N : Nat}
    (hl : fr.length ≤ 9223372036854775807) (hr : ∀ q ∈ fr, k53.R 53 W N (fun _ => True) q.1 q.2.f0) : Kd.F k46 W (fun k => k = g ∨ ∃ q ∈ fr, q.1.ownBlock = some k) (some ⟨g, 0, none⟩) fr.length (fr.map (·.2)) := by
  intro W' hW
  refine ⟨by rw [List.length_map], hl, fun hp => ⟨_, rfl, fun j x hj => ?_⟩⟩
  rw [List.getElem?_map] at hj
  obtain ⟨q, hq, hqx⟩ := Option.map_eq_some_iff.1 hj
  have hqm : q ∈ fr := List.mem_of_getElem? hq
  have hr' : k53.R 53 W' N (fun _ => True) q.1 q.2.f0 := Hd.R53_move (hr q hqm) (fun k hk => hW k (.inr ⟨q, hqm, hk⟩) (by
    obtain ⟨inner, ho⟩ := Kd.R_own (hr q hqm)
    exact own_lt ho k hk))
  obtain ⟨A, c, ev, hc, hC⟩ := Kd.R_reads hr'
  have hg' : W'.heap[g]? = some (.cells ((fr.flatMap fun q => [q.1, .int .i64 q.2.f1.f0, .int .i64 q.2.f1.f1]).toArray) 46 (0, 0)) := (hW g (.inl rfl) (blk_lt hg)).trans hg
  have hcells : ∀ (fr : List (Value × S46)) (j : Nat), fr[j]? = some q → ∀ i u, [q.1, Value.int .i64 q.2.f1.f0, .int .i64 q.2.f1.f1][i]? = some u → (fr.flatMap fun q => [q.1, Value.int .i64 q.2.f1.f0, .int .i64 q.2.f1.f1])[j * 3 + i]? = some u := by
    intro fr
    induction fr with
    | nil => intro j h; simp at h
    | cons a fr ih =>
      intro j h i u hu
      rw [List.flatMap_cons]
      cases j with
      | zero =>
        have : a = q := by simpa using h
        subst this
        have hi : i < 3 := by
          have := (List.getElem?_eq_some_iff.1 hu).1
          simpa using this
        rw [Nat.zero_mul, Nat.zero_add, List.getElem?_append_left (by simpa using hi)]
        exact hu
      | succ j =>
        rw [List.getElem?_append_right (by simp; omega)]
        have := ih j (by simpa using h) i u hu
        rw [show (j + 1) * 3 + i - [a.1, Value.int .i64 a.2.f1.f0, .int .i64 a.2.f1.f1].length = j * 3 + i by simp; omega]
        exact this
  refine ⟨[q.1, .int .i64 q.2.f1.f0, .int .i64 q.2.f1.f1], rfl, ?_, fun i u hu => ?_⟩
  · rw [← hqx, ev]
    exact k46_mk W' q.2 hc hC
  · rw [add_plain, show k46.sz = 3 from rfl, blk_cell hg']
    have := hcells fr j hq i u hu
    simpa using this
theorem head_Write.laid {base hb mb : Nat} {win : Int} {S : List Hd.Ent} {W0 W1 : World} (hH : Hd.HR base hb mb win S W0) (hB : Below W0.heap.size W0 W1) {fr : List (Value × S46)} {N : Nat} (hN : W0.heap.size ≤ N) (hr : ∀ q ∈ fr, k53.R 53 W1 N (fun _ => True) q.1 q.2.f0) (hl : fr.length ≤ 1099511627776) (hct : Hd.cnt (Hd.abs S) + 200 ≤ 1099511627776) :
    Calls Try.prog 23 #[.pointer (some ⟨hb, 0, none⟩), .slice (some ⟨W1.heap.size, 0, none⟩) fr.length fr.length] (W1.alloc (.cells ((fr.flatMap fun q => [q.1, .int .i64 q.2.f1.f0, .int .i64 q.2.f1.f1]).toArray) 46)) fun e w' => e = .returned (.int .i64 (Hd.writeF win (Hd.abs S) (fr.map (·.2))).1) ∧ ∃ S', Hd.HR base hb mb win S' w' ∧ Hd.abs S' = (Hd.writeF win (Hd.abs S) (fr.map (·.2))).2 ∧ Hd.Fr (Hd.Own hb mb S) (Hd.Own hb mb S') W0 w' := by
  have hb2 : Below W1.heap.size W1 (W1.alloc (.cells ((fr.flatMap fun q => [q.1, .int .i64 q.2.f1.f0, .int .i64 q.2.f1.f1]).toArray) 46)) := below_alloc (Below.refl _ _) _
  have hb3 := below_step hB hb2
  have hf := rowsF (W := W1.alloc (.cells ((fr.flatMap fun q => [q.1, .int .i64 q.2.f1.f0, .int .i64 q.2.f1.f1]).toArray) 46)) (g := W1.heap.size) (fr := fr) (N := N) (blk_new _ _) (by omega) (fun q hq => Kd.R_below (hr q hq) hb2)
  have hlm : (fr.map (·.2)).length = fr.length := List.length_map ..
  rw [← hlm] at hf
  have hw := head_Write.calls (some ⟨W1.heap.size, 0, none⟩) fr.length (fr.map (·.2)) _ (hH.below hb3) _ hf (fun k hk hlt ho => by
    have h1 := (hH.lt k ho).2
    rcases hk with h2 | ⟨q, hq, h2⟩
    · have := hB.size
      omega
    · have := Kd.R_base (hr q hq) k h2
      omega) (by rw [hlm]; exact Nat.le_refl _) hct
  rw [hlm] at hw
  refine hw.mono ?_
  rintro e w' ⟨he, S', h1, h2, h3⟩
  exact ⟨he, S', h1, h2, (Hd.Fr.of_below hb3).trans h3⟩
/-! #### the example's rows, in plain lists -/
def Hd.lab (s : ByteArray) : List S53 := [⟨⟨#[97]⟩, s⟩]
theorem Hd.mk_lab {s : ByteArray} (h0 : s.size ≠ 0) (h64 : s.size ≤ 64) : Hl.mk (Hd.lab s) = some (Hd.lab s) := by
  have h1 : Hl.okL ⟨⟨#[97]⟩, s⟩ = true := by
    unfold Hl.okL
    show (labels_Name.ok (⟨#[97]⟩ : ByteArray) && s.size != 0 && decide (s.size ≤ 64)) = true
    rw [show labels_Name.ok (⟨#[97]⟩ : ByteArray) = true from by decide, decide_eq_true h64, bne_iff_ne.2 h0]
    rfl
  unfold Hl.mk Hd.lab
  rw [if_neg (by simp)]
  show (if Hl.okL ⟨⟨#[97]⟩, s⟩ = true then (Hl.ins ⟨⟨#[97]⟩, s⟩ []).bind (Hl.mkf []) else none) = _
  rw [if_pos h1]
  rfl
/-- One row of a series, written. -/
theorem Hd.writeF_one {win : Int} {L : Hd.A} {s : ByteArray} (h0 : s.size ≠ 0) (h64 : s.size ≤ 64) (t v : Int) (ht : -9007199254740992 ≤ t ∧ t ≤ 9007199254740992) :
    Hd.writeF win L [⟨Hd.lab s, ⟨t, v⟩⟩] = match Hd.find L (Hd.lab s) with
      | some xs => if t < Hd.lastT xs - win then (22, L) else (0, Hd.putL L (Hd.lab s) ⟨t, v⟩)
      | none => if 1000 ≤ L.length then (2, L) else (0, Hd.putL L (Hd.lab s) ⟨t, v⟩) := by
  unfold Hd.writeF
  rw [if_neg (by simp), if_neg (by simp)]
  have hrow : Hd.rowF win (-Hd.maxT) L ⟨Hd.lab s, ⟨t, v⟩⟩ = match Hd.find L (Hd.lab s) with
      | some xs => if t < Hd.lastT xs - win then .error 22 else .ok (Hd.putL L (Hd.lab s) ⟨t, v⟩)
      | none => if 1000 ≤ L.length then .error 2 else .ok (Hd.putL L (Hd.lab s) ⟨t, v⟩) := by
    unfold Hd.rowF
    show (match Hl.mk (Hd.lab s) with | none => _ | some m => _) = _
    rw [Hd.mk_lab h0 h64]
    simp only
    rw [if_neg (by unfold Hd.maxT; omega), if_neg (by unfold Hd.maxT; omega)]
    split <;> rename_i h <;> rw [h]
  show (match (match Hd.rowF win (-Hd.maxT) L ⟨Hd.lab s, ⟨t, v⟩⟩ with | .error e => Except.error e | .ok L' => Hd.askF win (-Hd.maxT) [] L') with | .error e => (e, L) | .ok L' => (0, L')) = _
  rw [hrow]
  cases hf : Hd.find L (Hd.lab s) with
  | none =>
    by_cases hc : 1000 ≤ L.length
    · simp only [if_pos hc]
    · simp only [if_neg hc]
      rfl
  | some xs =>
    by_cases hc : t < Hd.lastT xs - win
    · simp only [if_pos hc]
    · simp only [if_neg hc]
      rfl
end
/-! ### the example of the document; HeadWindow -/
section
theorem head_Write.laid1 {base hb mb : Nat} {win : Int} {S : List Hd.Ent} {W0 W1 : World} (hH : Hd.HR base hb mb win S W0) (hB : Below W0.heap.size W0 W1) {A : Option Addr} {c N : Nat} {s : ByteArray} {t v : Int} (hN : W0.heap.size ≤ N) (hr : k53.R 53 W1 N (fun _ => True) (.slice A 1 c) (Hd.lab s)) (hct : Hd.cnt (Hd.abs S) + 200 ≤ 1099511627776) :
    Calls Try.prog 23 #[.pointer (some ⟨hb, 0, none⟩), .slice (some ⟨W1.heap.size, 0, none⟩) 1 1] (W1.alloc (.cells #[.slice A 1 c, .int .i64 t, .int .i64 v] 46)) fun e w' => e = .returned (.int .i64 (Hd.writeF win (Hd.abs S) [⟨Hd.lab s, ⟨t, v⟩⟩]).1) ∧ ∃ S', Hd.HR base hb mb win S' w' ∧ Hd.abs S' = (Hd.writeF win (Hd.abs S) [⟨Hd.lab s, ⟨t, v⟩⟩]).2 ∧ Hd.Fr (Hd.Own hb mb S) (Hd.Own hb mb S') W0 w' :=
  head_Write.laid hH hB (fr := [(.slice A 1 c, ⟨Hd.lab s, ⟨t, v⟩⟩)]) hN (fun q hq => by
    have : q = (.slice A 1 c, ⟨Hd.lab s, ⟨t, v⟩⟩) := by simpa using hq
    rw [this]; exact hr) (by simp) hct
theorem head_Write.laid2 {base hb mb : Nat} {win : Int} {S : List Hd.Ent} {W0 W1 : World} (hH : Hd.HR base hb mb win S W0) (hB : Below W0.heap.size W0 W1) {A A' : Option Addr} {c c' N : Nat} {s s' : ByteArray} {t v t' v' : Int} (hN : W0.heap.size ≤ N) (hr : k53.R 53 W1 N (fun _ => True) (.slice A 1 c) (Hd.lab s)) (hr' : k53.R 53 W1 N (fun _ => True) (.slice A' 1 c') (Hd.lab s')) (hct : Hd.cnt (Hd.abs S) + 200 ≤ 1099511627776) :
    Calls Try.prog 23 #[.pointer (some ⟨hb, 0, none⟩), .slice (some ⟨W1.heap.size, 0, none⟩) 2 2] (W1.alloc (.cells #[.slice A 1 c, .int .i64 t, .int .i64 v, .slice A' 1 c', .int .i64 t', .int .i64 v'] 46)) fun e w' => e = .returned (.int .i64 (Hd.writeF win (Hd.abs S) [⟨Hd.lab s, ⟨t, v⟩⟩, ⟨Hd.lab s', ⟨t', v'⟩⟩]).1) ∧ ∃ S', Hd.HR base hb mb win S' w' ∧ Hd.abs S' = (Hd.writeF win (Hd.abs S) [⟨Hd.lab s, ⟨t, v⟩⟩, ⟨Hd.lab s', ⟨t', v'⟩⟩]).2 ∧ Hd.Fr (Hd.Own hb mb S) (Hd.Own hb mb S') W0 w' :=
  head_Write.laid hH hB (fr := [(.slice A 1 c, ⟨Hd.lab s, ⟨t, v⟩⟩), (.slice A' 1 c', ⟨Hd.lab s', ⟨t', v'⟩⟩)]) hN (fun q hq => by
    rcases List.mem_cons.1 hq with h | h
    · rw [h]; exact hr
    · have : q = (.slice A' 1 c', ⟨Hd.lab s', ⟨t', v'⟩⟩) := by simpa using h
      rw [this]; exact hr') (by simp) hct
theorem row_calls (s : ByteArray) (t v : Int) (W : World) : Calls Try.prog 24 #[.string s, .int .i64 t, .int .i64 v] W fun e w' => ∃ (A : Option Addr) (c : Nat), e = .returned (.agg #[.slice A 1 c, .int .i64 t, .int .i64 v]) ∧ k53.R 53 w' W.heap.size (fun _ => True) (.slice A 1 c) (Hd.lab s) ∧ Below W.heap.size W w' := by
  refine (lysimeterlaw13_Row.calls s t v (Hd.lab s) t v W rfl).mono ?_
  rintro e w' ⟨v0, rfl, hr, hb⟩
  obtain ⟨A, c, ev⟩ := Kd.R_slice hr
  have ev' : v0 = .slice A 1 c := ev
  subst ev'
  exact ⟨A, c, rfl, hr, hb⟩
theorem num_calls (a : Int) (W : World) : Calls Try.prog 25 #[.int .i64 a] W fun e w' => e = .returned (.int .i64 a) ∧ Below W.heap.size W w' :=
  (lysimeterlaw13_num.calls a a W rfl).mono fun e w' h => ⟨h.1, h.2.below⟩
def Hd.sx : ByteArray := ⟨#[120]⟩
def Hd.sy : ByteArray := ⟨#[121]⟩
theorem Hd.lab_ne : Hd.lab Hd.sx ≠ Hd.lab Hd.sy := by
  intro h
  have h1 := (List.cons.inj h).1
  injection h1 with _ h2
  exact absurd h2 (by decide)
theorem Hd.find_hit (l : List S53) (xs : List S44) (L : Hd.A) : Hd.find ((l, xs) :: L) l = some xs := by rw [Hd.find, if_pos (Hd.lcl_self _)]
theorem Hd.find_one {l m : List S53} (xs : List S44) (h : l ≠ m) : Hd.find [(l, xs)] m = none := by rw [Hd.find, if_neg (fun e => h (Hd.lcl_zero.1 e))]; rfl
theorem Hd.write0 (win t v : Int) {s : ByteArray} (h0 : s.size ≠ 0) (h64 : s.size ≤ 64) (ht : -9007199254740992 ≤ t ∧ t ≤ 9007199254740992) : Hd.writeF win [] [⟨Hd.lab s, ⟨t, v⟩⟩] = (0, [(Hd.lab s, [⟨t, v⟩])]) := by
  rw [Hd.writeF_one h0 h64 t v ht]
  rfl
theorem Hd.put1 (l : List S53) (a s : S44) : Hd.putL [(l, [a])] l s = [(l, Hd.putS [a] s)] := by
  unfold Hd.putL
  rw [Hd.find_hit]
  show Hd.setA [(l, [a])] l (Hd.putS [a] s) = _
  rw [Hd.setA, if_pos (Hd.lcl_self _)]
theorem Hd.alive2 : Hd.writeF 10 [(Hd.lab Hd.sx, [⟨100, 1⟩])] [⟨Hd.lab Hd.sx, ⟨95, 2⟩⟩, ⟨Hd.lab Hd.sx, ⟨89, 3⟩⟩] = (22, [(Hd.lab Hd.sx, [⟨100, 1⟩])]) := by
  have hm := Hd.mk_lab (s := Hd.sx) (by decide) (by decide)
  have h1 : Hd.rowF 10 (-Hd.maxT) [(Hd.lab Hd.sx, [⟨100, 1⟩])] ⟨Hd.lab Hd.sx, ⟨95, 2⟩⟩ = .ok [(Hd.lab Hd.sx, [⟨95, 2⟩, ⟨100, 1⟩])] := by
    unfold Hd.rowF
    simp only [hm, Hd.find_hit]
    rw [if_neg (by decide), if_neg (by decide), if_neg (by decide), Hd.put1]
    rfl
  have h2 : Hd.rowF 10 (-Hd.maxT) [(Hd.lab Hd.sx, [⟨95, 2⟩, ⟨100, 1⟩])] ⟨Hd.lab Hd.sx, ⟨89, 3⟩⟩ = .error 22 := by
    unfold Hd.rowF
    simp only [hm, Hd.find_hit]
    rw [if_neg (by decide), if_neg (by decide), if_pos (by decide)]
  unfold Hd.writeF
  rw [if_neg (by decide), if_neg (by decide)]
  simp only [Hd.askF, h1, h2]
end
/-! ### the example's walk -/
section
theorem head_Write.one {base hb mb : Nat} {win : Int} {S : List Hd.Ent} {W0 W1 : World} (hH : Hd.HR base hb mb win S W0) (hB : Below W0.heap.size W0 W1) {A : Option Addr} {c : Nat} {s : ByteArray} {t v r : Int} {L L' : Hd.A} (hr : k53.R 53 W1 W0.heap.size (fun _ => True) (.slice A 1 c) (Hd.lab s)) (hS : Hd.abs S = L) (hct : Hd.cnt L + 200 ≤ 1099511627776)
    (E : Hd.writeF win L [⟨Hd.lab s, ⟨t, v⟩⟩] = (r, L')) :
    Calls Try.prog 23 #[.pointer (some ⟨hb, 0, none⟩), .slice (some ⟨W1.heap.size, 0, none⟩) 1 1] (W1.alloc (.cells #[.slice A 1 c, .int .i64 t, .int .i64 v] 46)) fun e w' => e = .returned (.int .i64 r) ∧ ∃ S', Hd.HR base hb mb win S' w' ∧ Hd.abs S' = L' ∧ Below base W0 w' := by
  subst hS
  refine (head_Write.laid1 hH hB (Nat.le_refl _) hr hct).mono ?_
  rw [E]
  rintro e w' ⟨h1, S', h2, h3, h4⟩
  exact ⟨h1, S', h2, h3, Hd.Fr.below h4 (fun k hk => (hH.lt k hk).1) (Nat.le_trans hH.lo.1 (Nat.le_of_lt (blk_lt hH.head)))⟩
theorem head_Write.two {base hb mb : Nat} {win : Int} {S : List Hd.Ent} {W0 W1 : World} (hH : Hd.HR base hb mb win S W0) (hB : Below W0.heap.size W0 W1) {A A' : Option Addr} {c c' : Nat} {s s' : ByteArray} {t v t' v' r : Int} {L L' : Hd.A} (hr : k53.R 53 W1 W0.heap.size (fun _ => True) (.slice A 1 c) (Hd.lab s)) (hr' : k53.R 53 W1 W0.heap.size (fun _ => True) (.slice A' 1 c') (Hd.lab s')) (hS : Hd.abs S = L) (hct : Hd.cnt L + 200 ≤ 1099511627776)
    (E : Hd.writeF win L [⟨Hd.lab s, ⟨t, v⟩⟩, ⟨Hd.lab s', ⟨t', v'⟩⟩] = (r, L')) :
    Calls Try.prog 23 #[.pointer (some ⟨hb, 0, none⟩), .slice (some ⟨W1.heap.size, 0, none⟩) 2 2] (W1.alloc (.cells #[.slice A 1 c, .int .i64 t, .int .i64 v, .slice A' 1 c', .int .i64 t', .int .i64 v'] 46)) fun e w' => e = .returned (.int .i64 r) ∧ ∃ S', Hd.HR base hb mb win S' w' ∧ Hd.abs S' = L' ∧ Below base W0 w' := by
  subst hS
  refine (head_Write.laid2 hH hB (Nat.le_refl _) hr hr' hct).mono ?_
  rw [E]
  rintro e w' ⟨h1, S', h2, h3, h4⟩
  exact ⟨h1, S', h2, h3, Hd.Fr.below h4 (fun k hk => (hH.lt k hk).1) (Nat.le_trans hH.lo.1 (Nat.le_of_lt (blk_lt hH.head)))⟩
set_option maxHeartbeats 8000000 in
set_option maxRecDepth 100000 in
theorem head_alive.calls (w : World) : Calls Try.prog 21 #[] w fun e w' => e = .returned (.bool true) ∧ Below w.heap.size w w' := by
  have HROW := Aside0.mk row_calls
  have HNUM := Aside0.mk num_calls
  have HNEW := Aside0.mk (head_New.calls 10)
  rw [show min (max (0 : Int) 10) 9007199254740992 = 10 by decide] at HNEW
  have E1 := Aside0.mk (Hd.write0 10 100 1 (s := Hd.sx) (by decide) (by decide) (by decide))
  have E2 := Aside0.mk Hd.alive2
  go_enter Try.func21, Try.ntmps21
  go_upto_region 4 with (go_at_call 22; (with_reducible refine (HNEW.out _).mono ?_); rintro e W1 ⟨hb, mb, rfl, hh1, hb1⟩; have HH1 := Aside0.mk hh1; have HB1 := Aside0.mk hb1; clear hh1 hb1)
  go_upto_region 5 with (first
    | (go_at_call 24; (with_reducible refine (HROW.out _ _ _ _).mono ?_); rintro e W2 ⟨A, c, rfl, hr, hb⟩; have HR2 := Aside0.mk hr; have HB2 := Aside0.mk hb; clear hr hb)
    | (go_at_call 23; (refine (head_Write.one HH1.out HB2.out HR2.out rfl (by show 0 + 200 ≤ _; omega) E1.out).mono ?_); rintro e W4 ⟨rfl, S2, hh2, he2, hf2⟩; have HE2 := Aside0.mk he2; have HH2 := Aside0.mk hh2; have HF2 := Aside0.mk (Below.trans HB1.out hf2); clear hh2 hf2 he2))
  go_upto_region 6 with (first
    | (go_at_call 24; (with_reducible refine (HROW.out _ 95 _ _).mono ?_); rintro e W5 ⟨A5, c5, rfl, hr, hb⟩; have HR5 := Aside0.mk hr; have HB5 := Aside0.mk hb; clear hr hb)
    | (go_at_call 23; (refine (head_Write.two HH2.out (below_step HB5.out HB6.out) (Kd.R_below HR5.out HB6.out) (Kd.R_lower HR6.out HB5.out.size) HE2.out (by decide) E2.out).mono ?_); rintro e W7 ⟨rfl, S3, hh2, he2, hf2⟩; have HE3 := Aside0.mk he2; have HH3 := Aside0.mk hh2; have HF3 := Aside0.mk (Below.trans HF2.out hf2); clear hh2 hf2 he2)
    | (go_at_call 24; (with_reducible refine (HROW.out _ 89 _ _).mono ?_); rintro e W6 ⟨A6, c6, rfl, hr, hb⟩; have HR6 := Aside0.mk hr; have HB6 := Aside0.mk hb; clear hr hb))
  go_wp2_with (first
    | (go_at_call 25; (with_reducible refine (HNUM.out 0 _).mono ?_); rintro e W8 ⟨rfl, hb⟩; have HB8 := Aside0.mk hb; clear hb)
    | (go_at_call 25; (with_reducible refine (HNUM.out 22 _).mono ?_); rintro e W9 ⟨rfl, hb⟩; have HB9 := Aside0.mk hb; clear hb)
    | (go_at_call 30; (refine (head_Count.calls ((HH3.out.below HB8.out).below HB9.out)).mono ?_); rintro e W10 ⟨rfl, rfl⟩; rw [HE3.out, show Hd.cnt [(Hd.lab Hd.sx, [(⟨100, 1⟩ : S44)])] = 1 from rfl]))
  go_ret
  exact ⟨rfl, below_step (below_step HF3.out HB8.out) HB9.out⟩
end
/-! ### HeadWindow -/
section
theorem Hd.win2 {win n d : Int} (hw : 0 ≤ win ∧ win ≤ 1099511627776) (hn : 0 ≤ n ∧ n ≤ 1125899906842624) (hd : 0 ≤ d ∧ d ≤ 2199023255552) :
    ∃ (r : Int) (xs : List S44), Hd.writeF win [(Hd.lab Hd.sx, [⟨n, 1⟩])] [⟨Hd.lab Hd.sx, ⟨n - d, 2⟩⟩] = (r, [(Hd.lab Hd.sx, xs)]) ∧ Hd.cnt [(Hd.lab Hd.sx, xs)] ≤ 2 ∧ ((d ≤ win ∧ r = 0) ∨ (win < d ∧ r = 22)) := by
  rw [Hd.writeF_one (by decide) (by decide) _ _ (by omega), Hd.find_hit, Hd.put1]
  have hl : Hd.lastT [(⟨n, 1⟩ : S44)] = n := rfl
  simp only [hl]
  by_cases h : n - d < n - win
  · rw [if_pos h]
    exact ⟨22, _, rfl, by show 1 + 0 ≤ 2; omega, .inr ⟨by omega, rfl⟩⟩
  · rw [if_neg h]
    refine ⟨0, _, rfl, ?_, .inl ⟨by omega, rfl⟩⟩
    have := (Hd.putS_len [(⟨n, 1⟩ : S44)] ⟨n - d, 2⟩).2
    simp only [Hd.cnt, List.map_cons, List.map_nil, List.sum_cons, List.sum_nil, List.length_cons, List.length_nil] at this ⊢
    omega
theorem Hd.win3 {win : Int} {xs : List S44} {t v : Int} (ht : -9007199254740992 ≤ t ∧ t ≤ 9007199254740992) :
    ∃ L', Hd.writeF win [(Hd.lab Hd.sx, xs)] [⟨Hd.lab Hd.sy, ⟨t, v⟩⟩] = (0, L') := by
  rw [Hd.writeF_one (by decide) (by decide) _ _ ht, Hd.find_one _ Hd.lab_ne]
  exact ⟨_, rfl⟩
set_option maxHeartbeats 8000000 in
set_option maxRecDepth 100000 in
theorem HeadWindow.calls (a n d : Int) (w : World) : Calls Try.prog 4 #[.int .i64 a, .int .i64 n, .int .i64 d] w fun e w' => e = .returned (.bool true) ∧ Below w.heap.size w w' := by
  have HROW := Aside0.mk row_calls
  have HNUM := Aside0.mk num_calls
  have HAL := Aside0.mk head_alive.calls
  go_enter Try.func4, Try.ntmps4
  go_upto_region 2 with (go_at_call 21; (with_reducible refine (HAL.out _).mono ?_); rintro e W0 ⟨rfl, hb0⟩; have HB0 := Aside0.mk hb0; clear hb0)
  by_cases h1 : a < 0
  · go_wp2
    go_ret
    exact ⟨rfl, HB0.out⟩
  by_cases h2 : a > 1099511627776
  · go_wp2
    go_ret
    exact ⟨rfl, HB0.out⟩
  by_cases h3 : n < 0
  · go_wp2
    go_ret
    exact ⟨rfl, HB0.out⟩
  by_cases h4 : n > 1125899906842624
  · go_wp2
    go_ret
    exact ⟨rfl, HB0.out⟩
  by_cases h5 : d < 0
  · go_wp2
    go_ret
    exact ⟨rfl, HB0.out⟩
  by_cases h6 : d > 2199023255552
  · go_wp2
    go_ret
    exact ⟨rfl, HB0.out⟩
  have HNEW := Aside0.mk (head_New.calls a)
  rw [show min (max (0 : Int) a) 9007199254740992 = a by omega] at HNEW
  obtain ⟨r, xs, e2, hx, hr⟩ := Hd.win2 (win := a) (n := n) (d := d) (by omega) (by omega) (by omega)
  obtain ⟨L3, e3⟩ := Hd.win3 (win := a) (xs := xs) (t := n - d) (v := 2) (by omega)
  have E1 := Aside0.mk (Hd.write0 a n 1 (s := Hd.sx) (by decide) (by decide) (by omega))
  have E2 := Aside0.mk e2
  have E3 := Aside0.mk e3
  have HX := Aside0.mk hx
  clear e2 e3 hx
  have hw1 : IntKind.i64.wrap (n - d) = n - d := by rw [IntKind.wrap_i64]; omega
  go_upto_region 5 with (go_at_call 22; (with_reducible refine (HNEW.out _).mono ?_); rintro e W1 ⟨hb, mb, rfl, hh1, hb1⟩; have HH1 := Aside0.mk hh1; have HB1 := Aside0.mk (below_step HB0.out hb1); clear hh1 hb1)
  go_upto_region 6 with (first
    | (go_at_call 24; (with_reducible refine (HROW.out _ _ _ _).mono ?_); rintro e W2 ⟨A, c, rfl, hr, hb⟩; have HR2 := Aside0.mk hr; have HB2 := Aside0.mk hb; clear hr hb)
    | (go_at_call 23; (refine (head_Write.one HH1.out HB2.out HR2.out rfl (by show 0 + 200 ≤ _; omega) E1.out).mono ?_); rintro e W4 ⟨rfl, S2, hh2, he2, hf2⟩; have HE2 := Aside0.mk he2; have HH2 := Aside0.mk hh2; have HF2 := Aside0.mk (Below.trans HB1.out (Below.mono hf2 HB0.out.size)); clear hh2 hf2 he2))
  go_upto_region 7 with (first
    | (go_at_call 24; (with_reducible refine (HROW.out _ _ _ _).mono ?_); rintro e W5 ⟨A5, c5, rfl, hr, hb⟩; have HR5 := Aside0.mk hr; have HB5 := Aside0.mk hb; clear hr hb)
    | (go_at_call 23; (refine (head_Write.one HH2.out HB5.out HR5.out HE2.out (by show 1 + 0 + 200 ≤ _; omega) E2.out).mono ?_); rintro e W6 ⟨rfl, S3, hh2, he2, hf2⟩; have HE3 := Aside0.mk he2; have HH3 := Aside0.mk hh2; have HF3 := Aside0.mk (Below.trans HF2.out (Below.mono hf2 HB0.out.size)); clear hh2 hf2 he2))
  go_upto_region 8 with (first
    | (go_at_call 24; (with_reducible refine (HROW.out _ _ _ _).mono ?_); rintro e W7 ⟨A7, c7, rfl, hr, hb⟩; have HR7 := Aside0.mk hr; have HB7 := Aside0.mk hb; clear hr hb)
    | (go_at_call 23; (refine (head_Write.one HH3.out HB7.out HR7.out HE3.out (Nat.le_trans (Nat.add_le_add_right HX.out 200) (by omega)) E3.out).mono ?_); rintro e W8 ⟨rfl, S4, hh2, he2, hf2⟩; have HF4 := Aside0.mk (Below.trans HF3.out (Below.mono hf2 HB0.out.size)); clear hh2 hf2 he2))
  clear HROW E1 E2 E3 HE3 HE2 HH1 HH2 HH3 HR7 HR5 HR2 HB7 HB5 HB2 HNEW HX HAL
  rcases hr with ⟨hd, hr⟩ | ⟨hd, hr⟩
  · subst hr
    go_wp2_with (first
      | (go_at_call 25; (with_reducible refine (HNUM.out _ W8).mono ?_); rintro e W9 ⟨rfl, hb⟩; have HB9 := Aside0.mk hb; clear hb)
      | (go_at_call 25; (with_reducible refine (HNUM.out _ W9).mono ?_); rintro e W10 ⟨rfl, hb⟩; have HB10 := Aside0.mk hb; clear hb)
      | (go_at_call 25; (with_reducible refine (HNUM.out _ W10).mono ?_); rintro e W11 ⟨rfl, hb⟩; have HB11 := Aside0.mk hb; clear hb))
    go_ret
    exact ⟨rfl, below_step (below_step (below_step HF4.out HB9.out) HB10.out) HB11.out⟩
  · subst hr
    have hnd : ¬ d ≤ a := by omega
    go_wp2_with (first
      | (go_at_call 25; (with_reducible refine (HNUM.out _ W8).mono ?_); rintro e W9 ⟨rfl, hb⟩; have HB9 := Aside0.mk hb; clear hb)
      | (go_at_call 25; (with_reducible refine (HNUM.out _ W9).mono ?_); rintro e W10 ⟨rfl, hb⟩; have HB10 := Aside0.mk hb; clear hb)
      | (go_at_call 25; (with_reducible refine (HNUM.out _ W10).mono ?_); rintro e W11 ⟨rfl, hb⟩; have HB11 := Aside0.mk hb; clear hb)
      | (go_at_call 25; (with_reducible refine (HNUM.out _ W11).mono ?_); rintro e W12 ⟨rfl, hb⟩; have HB12 := Aside0.mk hb; clear hb))
    go_ret
    exact ⟨by show Ending.returned (Value.bool !decide (d ≤ a)) = _; rw [decide_eq_false (Int.not_le.2 hnd)]; rfl, below_step (below_step (below_step (below_step HF4.out HB9.out) HB10.out) HB11.out) HB12.out⟩
end
end Go.Proofs.Ytcgocdhffcnleaa.PHead
