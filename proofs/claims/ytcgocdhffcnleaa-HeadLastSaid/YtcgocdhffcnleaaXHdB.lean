/- A part of the proofs about the head: see the theorems' own lines. -/
import Derived.Test.YtcgocdhffcnleaaXHdA
namespace Go.Proofs.Ytcgocdhffcnleaa.PHead
open Go Go.RowKit Go.Proofs.YtcgocdhffcnleaaW.PrintWords Go.Proofs.YtcgocdhffcnleaaW.PrintLast Go.Proofs.YtcgocdhffcnleaaW.PrintMore Go.Proofs.Ytcgocdhffcnleaa.XB Go.Proofs.Ytcgocdhffcnleaa.PHeadPlays
set_option linter.unusedVariables false
set_option linter.unusedSimpArgs false
/-! ### labels, in plain lists -/
namespace Hl
open Go.Proofs.Ytcgocdhffcnleaa.XLab (sc sc_zero sc_anti sc_tr)
def nm (x : S53) : List UInt8 := x.f0.toList
def ins (x : S53) : List S53 → Option (List S53)
  | [] => some [x]
  | y :: l => if sc (nm y) (nm x) < 0 then (ins x l).map (y :: ·) else if nm y = nm x then none else some (x :: y :: l)
def srt (l : List S53) : Prop := l.Pairwise fun a b => sc (nm a) (nm b) < 0
theorem ins_put (x : S53) (q : List S53) (hq : ∀ y ∈ q, sc (nm x) (nm y) < 0) : ∀ p : List S53, (∀ y ∈ p, sc (nm y) (nm x) < 0) → ins x (p ++ q) = some (p ++ x :: q)
  | [], _ => by
    cases q with
    | nil => rfl
    | cons y q =>
      have h := hq y List.mem_cons_self
      have h2 : ¬ sc (nm y) (nm x) < 0 := fun h3 => by have := (sc_anti _ _).1 h3; omega
      have h3 : nm y ≠ nm x := fun e => by rw [e, (sc_zero _ _).2 rfl] at h; omega
      show (if sc (nm y) (nm x) < 0 then _ else _) = _
      rw [if_neg h2, if_neg h3]
      rfl
  | y :: p, hp => by
    rw [List.cons_append, ins, if_pos (hp y List.mem_cons_self), ins_put x q hq p (fun z hz => hp z (List.mem_cons_of_mem _ hz))]
    rfl
theorem ins_none (x y : S53) (q : List S53) (he : nm y = nm x) : ∀ p : List S53, srt (p ++ y :: q) → ins x (p ++ y :: q) = none
  | [], _ => by
    show (if sc (nm y) (nm x) < 0 then _ else _) = _
    rw [he, (sc_zero _ _).2 rfl, if_neg (by omega), if_pos rfl]
  | z :: p, hs => by
    have h1 := List.pairwise_cons.1 hs
    have h2 : sc (nm z) (nm x) < 0 := by rw [← he]; exact h1.1 y (by simp)
    rw [List.cons_append, ins, if_pos h2, ins_none x y q he p h1.2]
    rfl
theorem ins_some (x : S53) : ∀ (l m : List S53), ins x l = some m → ∃ p q, l = p ++ q ∧ m = p ++ x :: q ∧ (∀ y ∈ p, sc (nm y) (nm x) < 0) ∧ (srt l → ∀ y ∈ q, sc (nm x) (nm y) < 0)
  | [], m, h => by
    have : m = [x] := (Option.some.inj h).symm
    exact ⟨[], [], rfl, this, by simp, by simp⟩
  | y :: l, m, h => by
    replace h : (if sc (nm y) (nm x) < 0 then (ins x l).map (y :: ·) else if nm y = nm x then none else some (x :: y :: l)) = some m := h
    split at h
    · rename_i h1
      obtain ⟨m', hm', rfl⟩ := Option.map_eq_some_iff.1 h
      obtain ⟨p, q, rfl, rfl, h2, h3⟩ := ins_some x l m' hm'
      exact ⟨y :: p, q, rfl, rfl, fun z hz => by
        rcases List.mem_cons.1 hz with rfl | hz
        · exact h1
        · exact h2 z hz, fun hs => h3 (List.pairwise_cons.1 hs).2⟩
    · rename_i h1
      split at h
      · cases h
      · rename_i h2
        have e := (Option.some.inj h).symm
        refine ⟨[], y :: l, rfl, e, by simp, fun hs z hz => ?_⟩
        have h3 : sc (nm x) (nm y) < 0 := by
          have z1 : sc (nm y) (nm x) ≠ 0 := fun e => h2 ((sc_zero _ _).1 e)
          exact (sc_anti _ _).2 (by omega)
        rcases List.mem_cons.1 hz with rfl | hz
        · exact h3
        · exact sc_tr _ _ _ h3 ((List.pairwise_cons.1 hs).1 z hz)
theorem ins_srt {x : S53} {l m : List S53} (h : ins x l = some m) (hs : srt l) : srt m := by
  obtain ⟨p, q, rfl, rfl, h1, h2⟩ := ins_some x l m h
  have h3 := h2 hs
  unfold srt at *
  rw [List.pairwise_append] at hs ⊢
  refine ⟨hs.1, List.pairwise_cons.2 ⟨h3, hs.2.1⟩, fun a ha b hb => ?_⟩
  rcases List.mem_cons.1 hb with rfl | hb
  · exact h1 a ha
  · exact hs.2.2 a ha b hb
theorem ins_len {x : S53} {l m : List S53} (h : ins x l = some m) : m.length = l.length + 1 := by
  obtain ⟨p, q, rfl, rfl, _, _⟩ := ins_some x l m h
  simp; omega
theorem ins_mem {x : S53} {l m : List S53} (h : ins x l = some m) : ∀ y, y ∈ m ↔ y = x ∨ y ∈ l := by
  obtain ⟨p, q, rfl, rfl, _, _⟩ := ins_some x l m h
  intro y
  simp only [List.mem_append, List.mem_cons]
  constructor
  · rintro (h | h | h)
    · exact .inr (.inl h)
    · exact .inl h
    · exact .inr (.inr h)
  · rintro (h | h | h)
    · exact .inr (.inl h)
    · exact .inl h
    · exact .inr (.inr h)
/-- A label that may be. -/
def okL (x : S53) : Bool := labels_Name.ok x.f0 && x.f1.size != 0 && decide (x.f1.size ≤ 64)
def mkf : List S53 → List S53 → Option (List S53)
  | [], out => some out
  | x :: l, out => if okL x = true then (ins x out).bind (mkf l) else none
/-- labels.Make. -/
def mk (l : List S53) : Option (List S53) := if l.length = 0 ∨ 16 < l.length then none else mkf l []
def made (m : List S53) : Prop := srt m ∧ (∀ x ∈ m, okL x = true) ∧ m.length ≠ 0 ∧ m.length ≤ 16
theorem mkf_made : ∀ (l out m : List S53), srt out → (∀ x ∈ out, okL x = true) → mkf l out = some m → srt m ∧ (∀ x ∈ m, okL x = true) ∧ m.length = out.length + l.length
  | [], out, m, hs, ho, h => by
    have : out = m := Option.some.inj h
    subst this
    exact ⟨hs, ho, rfl⟩
  | x :: l, out, m, hs, ho, h => by
    replace h : (if okL x = true then (ins x out).bind (mkf l) else none) = some m := h
    split at h
    · rename_i hx
      obtain ⟨o2, h1, h2⟩ := Option.bind_eq_some_iff.1 h
      obtain ⟨a, b, c⟩ := mkf_made l o2 m (ins_srt h1 hs) (fun y hy => by
        rcases (ins_mem h1 y).1 hy with rfl | hy
        · exact hx
        · exact ho y hy) h2
      refine ⟨a, b, ?_⟩
      rw [c, ins_len h1, List.length_cons]
      omega
    · cases h
theorem mk_made {l m : List S53} (h : mk l = some m) : made m ∧ m.length = l.length := by
  unfold mk at h
  split at h
  · cases h
  · rename_i h0
    obtain ⟨a, b, c⟩ := mkf_made l [] m List.Pairwise.nil (fun _ h => by cases h) h
    have : m.length = l.length := by rw [c]; simp
    exact ⟨⟨a, b, by omega, by omega⟩, this⟩
theorem mkf_of_made : ∀ (l out : List S53), srt (out ++ l) → (∀ x ∈ l, okL x = true) → mkf l out = some (out ++ l)
  | [], out, _, _ => by simp [mkf]
  | x :: l, out, hs, ho => by
    show (if okL x = true then (ins x out).bind (mkf l) else none) = _
    rw [if_pos (ho x List.mem_cons_self)]
    have h1 : ins x out = some (out ++ [x]) := by
      have := ins_put x [] (fun _ h => by cases h) out (fun y hy => (List.pairwise_append.1 hs).2.2 y hy x List.mem_cons_self)
      rw [List.append_nil] at this
      exact this
    rw [h1]
    show mkf l (out ++ [x]) = _
    rw [mkf_of_made l (out ++ [x]) (by rw [List.append_assoc]; exact hs) (fun y hy => ho y (List.mem_cons_of_mem _ hy)), List.append_assoc]
    rfl
theorem mk_of_made {m : List S53} (h : made m) : mk m = some m := by
  obtain ⟨a, b, c, d⟩ := h
  unfold mk
  rw [if_neg (by omega), mkf_of_made m [] a b]
  rfl
/-! #### texts -/
def hx (n : Nat) : UInt8 := if n < 10 then UInt8.ofNat (48 + n) else UInt8.ofNat (87 + n)
def qc (c : UInt8) : List UInt8 := if c.toNat = 34 ∨ c.toNat = 92 ∨ c.toNat < 32 ∨ 126 < c.toNat then [92, hx (c.toNat / 16), hx (c.toNat % 16)] else [c]
def qt (v : List UInt8) : List UInt8 := 34 :: (v.flatMap qc ++ [34])
def labT (x : S53) : List UInt8 := x.f0.toList ++ 61 :: qt x.f1.toList
def bodyT : List S53 → List UInt8
  | [] => [125]
  | x :: l => 44 :: (labT x ++ bodyT l)
def txtB : List S53 → List UInt8
  | [] => []
  | x :: l => 123 :: (labT x ++ bodyT l)
/-- labels.Text. -/
def txt (l : List S53) : ByteArray := match mk l with
  | none => ⟨#[]⟩
  | some m => ⟨(txtB m).toArray⟩
theorem cut1 {c : UInt8} : ∀ {a b x y : List UInt8}, c ∉ a → c ∉ b → a ++ c :: x = b ++ c :: y → a = b ∧ x = y
  | [], [], _, _, _, _, h => ⟨rfl, by simpa using h⟩
  | [], b :: r, _, _, _, hb, h => by
    have : c = b := by simpa using (List.cons.inj h).1
    exact absurd (this ▸ List.mem_cons_self) hb
  | a :: p, [], _, _, ha, _, h => by
    have : a = c := by simpa using (List.cons.inj h).1
    exact absurd (this ▸ List.mem_cons_self) ha
  | a :: p, b :: r, _, _, ha, hb, h => by
    obtain ⟨h1, h2⟩ := List.cons.inj h
    obtain ⟨h3, h4⟩ := cut1 (fun h => ha (List.mem_cons_of_mem _ h)) (fun h => hb (List.mem_cons_of_mem _ h)) h2
    exact ⟨by rw [h1, h3], h4⟩
theorem hx_ne {n : Nat} (h : n < 16) : hx n ≠ 34 ∧ hx n ≠ 92 := by
  have : ∀ n : Fin 16, hx n.val ≠ 34 ∧ hx n.val ≠ 92 := by decide
  exact this ⟨n, h⟩
theorem hx_inj {n m : Nat} (hn : n < 16) (hm : m < 16) (h : hx n = hx m) : n = m := by
  have : ∀ n m : Fin 16, hx n.val = hx m.val → n = m := by decide
  exact congrArg Fin.val (this ⟨n, hn⟩ ⟨m, hm⟩ h)
theorem u8_ext {a b : UInt8} (h : a.toNat = b.toNat) : a = b := UInt8.toNat_inj.1 h
theorem qc_free (c : UInt8) : (34 : UInt8) ∉ qc c := by
  unfold qc
  have hc := c.toNat_lt
  split
  · intro h
    simp only [List.mem_cons, List.not_mem_nil, or_false] at h
    rcases h with h | h | h
    · exact absurd h (by decide)
    · exact (hx_ne (by omega)).1 h.symm
    · exact (hx_ne (by omega)).1 h.symm
  · rename_i h0
    intro h
    have : (34 : UInt8) = c := by simpa using h
    subst this
    exact h0 (.inl rfl)
theorem qc_cut {c d : UInt8} {x y : List UInt8} (h : qc c ++ x = qc d ++ y) : c = d ∧ x = y := by
  unfold qc at h
  have hc := c.toNat_lt
  have hd := d.toNat_lt
  split at h
  · split at h
    · simp only [List.cons_append, List.nil_append, List.cons.injEq, true_and] at h
      have h1 := hx_inj (by omega) (by omega) h.1
      have h2 := hx_inj (by omega) (by omega) h.2.1
      exact ⟨u8_ext (by omega), h.2.2⟩
    · rename_i h0
      simp only [List.cons_append, List.nil_append, List.cons.injEq] at h
      exact absurd (.inr (.inl (by rw [← h.1]; rfl))) h0
  · rename_i h0
    split at h
    · simp only [List.cons_append, List.nil_append, List.cons.injEq] at h
      exact absurd (.inr (.inl (by rw [h.1]; rfl))) h0
    · simpa using h
theorem enc_free (v : List UInt8) : (34 : UInt8) ∉ v.flatMap qc := by
  intro h
  obtain ⟨c, _, hc⟩ := List.mem_flatMap.1 h
  exact qc_free c hc
theorem qc_pos (c : UInt8) : 0 < (qc c).length := by
  unfold qc
  split <;> simp
theorem enc_inj : ∀ {v u : List UInt8}, v.flatMap qc = u.flatMap qc → v = u
  | [], [], _ => rfl
  | [], d :: u, h => by
    exfalso
    have := congrArg List.length h
    simp only [List.flatMap_nil, List.flatMap_cons, List.length_append, List.length_nil] at this
    have := qc_pos d
    omega
  | c :: v, [], h => by
    exfalso
    have := congrArg List.length h
    simp only [List.flatMap_nil, List.flatMap_cons, List.length_append, List.length_nil] at this
    have := qc_pos c
    omega
  | c :: v, d :: u, h => by
    rw [List.flatMap_cons, List.flatMap_cons] at h
    obtain ⟨h1, h2⟩ := qc_cut h
    rw [h1, enc_inj h2]
theorem okB_ne {b : UInt8} (h : labels_Name.okB b = true) : b ≠ 61 := by
  rintro rfl
  exact absurd h (by decide)
theorem ok_bytes {s : ByteArray} (h : labels_Name.ok s = true) : (61 : UInt8) ∉ s.toList := by
  intro hm
  unfold labels_Name.ok at h
  rw [Go.ByteArray.toList_eq] at hm
  simp only [Bool.and_eq_true, List.all_eq_true] at h
  exact okB_ne (h.2 _ hm) rfl
theorem ba_ext {a b : ByteArray} (h : a.toList = b.toList) : a = b := by
  rw [Go.ByteArray.toList_eq, Go.ByteArray.toList_eq] at h
  exact ByteArray.ext (Array.toList_inj.1 h)
theorem labT_cut {x y : S53} {s t : List UInt8} (hx : okL x = true) (hy : okL y = true) (h : labT x ++ s = labT y ++ t) : x = y ∧ s = t := by
  unfold okL at hx hy
  simp only [Bool.and_eq_true] at hx hy
  unfold labT qt at h
  simp only [List.append_assoc, List.cons_append, List.nil_append] at h
  obtain ⟨h1, h2⟩ := cut1 (ok_bytes hx.1.1) (ok_bytes hy.1.1) h
  have h3 := (List.cons.inj h2).2
  obtain ⟨h4, h5⟩ := cut1 (enc_free _) (enc_free _) h3
  refine ⟨?_, h5⟩
  obtain ⟨x0, x1⟩ := x
  obtain ⟨y0, y1⟩ := y
  have e1 : x0 = y0 := ba_ext h1
  have e2 : x1 = y1 := ba_ext (enc_inj h4)
  rw [e1, e2]
theorem bodyT_inj : ∀ {l m : List S53}, (∀ x ∈ l, okL x = true) → (∀ x ∈ m, okL x = true) → bodyT l = bodyT m → l = m
  | [], [], _, _, _ => rfl
  | [], y :: m, _, _, h => by
    exfalso
    exact absurd (List.cons.inj h).1 (by decide)
  | x :: l, [], _, _, h => by
    exfalso
    exact absurd (List.cons.inj h).1 (by decide)
  | x :: l, y :: m, hl, hm, h => by
    obtain ⟨h1, h2⟩ := labT_cut (hl x List.mem_cons_self) (hm y List.mem_cons_self) (List.cons.inj h).2
    rw [h1, bodyT_inj (fun z hz => hl z (List.mem_cons_of_mem _ hz)) (fun z hz => hm z (List.mem_cons_of_mem _ hz)) h2]
theorem txtB_inj {l m : List S53} (hl : made l) (hm : made m) (h : txtB l = txtB m) : l = m := by
  cases l with
  | nil => exact absurd rfl hl.2.2.1
  | cons x l =>
    cases m with
    | nil => exact absurd rfl hm.2.2.1
    | cons y m =>
      have h0 := (List.cons.inj h).2
      obtain ⟨h1, h2⟩ := labT_cut (hl.2.1 x List.mem_cons_self) (hm.2.1 y List.mem_cons_self) h0
      rw [h1, bodyT_inj (fun z hz => hl.2.1 z (List.mem_cons_of_mem _ hz)) (fun z hz => hm.2.1 z (List.mem_cons_of_mem _ hz)) h2]
theorem txt_made {m : List S53} (h : made m) : txt m = ⟨(txtB m).toArray⟩ := by
  unfold txt
  rw [mk_of_made h]
theorem txt_inj {l m : List S53} (hl : made l) (hm : made m) (h : txt l = txt m) : l = m := by
  rw [txt_made hl, txt_made hm] at h
  injection h with h
  exact txtB_inj hl hm (by simpa using congrArg Array.toList h)
theorem enc_len : ∀ v : List UInt8, (v.flatMap qc).length ≤ 3 * v.length
  | [] => Nat.le_refl _
  | c :: v => by
    have := enc_len v
    rw [List.flatMap_cons, List.length_append, List.length_cons]
    have : (qc c).length ≤ 3 := by unfold qc; split <;> simp
    omega
end Hl
end Go.Proofs.Ytcgocdhffcnleaa.PHead
