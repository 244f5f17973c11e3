/- A part of the proofs about the head: see the theorems' own lines. -/
import Derived.Test.YtcgocdhffcnleaaXHdR
import Derived.Test.YtcgocdhffcnleaaPHeadPlaysx5
import Derived.Lib.Overlaps
import Derived.Laws.CopyOwn
import Derived.Laws.IdiomCopy
import Derived.Lib.AppendZeros
import Derived.StillTailTactics
import Derived.Outline
namespace Go.Proofs.Ytcgocdhffcnleaa.PHead
open Go Go.RowKit Go.Proofs.YtcgocdhffcnleaaW.PrintWords Go.Proofs.YtcgocdhffcnleaaW.PrintLast Go.Proofs.YtcgocdhffcnleaaW.PrintMore Go.Proofs.Ytcgocdhffcnleaa.XB Go.Proofs.Ytcgocdhffcnleaa.PHeadPlays Go.Proofs.Ytcgocdhffcnleaa.XH
set_option linter.unusedVariables false
set_option linter.unusedSimpArgs false
/-! ### Samples -/
section
set_option maxHeartbeats 8000000 in
set_option maxRecDepth 100000 in
theorem head_Samples.hit {base hb mb : Nat} {win : Int} {S : List Hd.Ent} {W : World} (h : Hd.HR base hb mb win S W) (A : Option Addr) (c : Nat) (l m : List S53) (hC : Kd.C k53 W A l.length l) (hc : l.length ≤ c) (hm : Hl.mk l = some m) {e : Hd.Ent} (he : e ∈ S) (hem : e.ls = m) (hl : e.xs.length ≤ 1099511627776) :
    Calls Try.prog 26 #[.pointer (some ⟨hb, 0, none⟩), .slice A l.length c] W fun e' w' => ∃ v, e' = .returned v ∧ Kd.R k44 44 w' W.heap.size (fun _ => True) v e.xs ∧ Below W.heap.size W w' := by
  have hs : keyOf Try.prog 9 (.string (Hl.txt l)) = some (Hd.key e.ls) := by
    obtain ⟨kl, h1, h2⟩ := Hd.keyOf_txt' l
    rcases h2 with ⟨m', h3, h4⟩ | ⟨h3, _⟩
    · rw [hm] at h3
      injection h3 with h3
      rw [h1, h4, ← h3, hem]
    · rw [hm] at h3; cases h3
  have HTX := Aside0.mk (labels_Text.calls A c l W.drew (Kd.C_below hC (below_drew1 (Below.refl _ _))) hc)
  have HH := Aside0.mk h
  have HE := Aside0.mk he
  have HS := Aside0.mk hs
  have HL := Aside0.mk hl
  obtain ⟨n, hn⟩ : ∃ n, n = l.length := ⟨_, rfl⟩
  rw [← hn] at HTX ⊢
  have z1 := (blk_cell h.head 1).trans (show (#[.int .i64 win, .map (some mb), .int .i64 (Hd.cnt (Hd.abs S) : Nat)] : Array Value)[1]? = some (.map (some mb)) from rfl)
  have hsam := (h.ent e he).sam
  have hblk := (h.ent e he).blk
  obtain ⟨As, cs, ev⟩ := Kd.R_slice hsam
  have y1 : W.cell? ⟨e.g, 1, none⟩ = some (.slice As e.xs.length cs) := by rw [← ev]; exact (blk_cell hblk 1).trans rfl
  rw [ev] at hsam
  have HSAM := Aside0.mk hsam
  obtain ⟨eg, heg⟩ : ∃ eg, eg = e.g := ⟨_, rfl⟩
  obtain ⟨ln, hln⟩ : ∃ n, n = e.xs.length := ⟨_, rfl⟩
  have HEG := Aside0.mk heg
  have HLN := Aside0.mk hln
  rw [← heg, ← hln] at y1
  clear h he hs hC hc hm hem hl hn hsam hblk ev heg hln
  go_enter Try.func26, Try.ntmps26
  go_upto_region 1 with fail
  go_region_with (go_at_call 62; (with_reducible refine HTX.out.mono ?_); rintro e_ W2 ⟨rfl, hb2'⟩; have hb2 := below_step (below_drew1 (Below.refl _ _)) hb2'; have z1' := pw_cell_below hb2 z1; have y1' := pw_cell_below hb2 y1; have HB2 := Aside0.mk hb2; have hlook := (HH.out.below hb2).look_hit HE.out HS.out; rw [← HEG.out] at hlook; clear hb2 hb2')
  all_goals (
    obtain ⟨_, hcs, hCs⟩ := Kd.R_reads' (Kd.R_below HSAM.out HB2.out)
    have HCL := Aside0.mk (api_Sample_73.calls As cs e.xs e.xs W2 hCs hcs (by unfold api_Sample_73.f; rw [if_pos (by have := HL.out; omega)]))
    rw [← HLN.out] at HCL
    clear hcs hCs
    go_wp2_with (go_at_call 73; (refine HCL.out.mono ?_); rintro e_ W3 ⟨v, rfl, hr, hb3⟩)
    go_ret
    exact ⟨v, rfl, Kd.R_lower hr HB2.out.size, below_step HB2.out hb3⟩)
set_option maxHeartbeats 8000000 in
set_option maxRecDepth 100000 in
theorem head_Samples.miss {base hb mb : Nat} {win : Int} {S : List Hd.Ent} {W : World} (h : Hd.HR base hb mb win S W) (A : Option Addr) (c : Nat) (l : List S53) (hC : Kd.C k53 W A l.length l) (hc : l.length ≤ c) {kl : Lit} (hs : keyOf Try.prog 9 (.string (Hl.txt l)) = some kl) (hk : ∀ e ∈ S, kl ≠ Hd.key e.ls) :
    Calls Try.prog 26 #[.pointer (some ⟨hb, 0, none⟩), .slice A l.length c] W fun e' w' => e' = .returned (.slice none 0 0) ∧ Below W.heap.size W w' := by
  have HTX := Aside0.mk (labels_Text.calls A c l W.drew (Kd.C_below hC (below_drew1 (Below.refl _ _))) hc)
  have HH := Aside0.mk h
  have HS := Aside0.mk hs
  have HK := Aside0.mk hk
  obtain ⟨n, hn⟩ : ∃ n, n = l.length := ⟨_, rfl⟩
  rw [← hn] at HTX ⊢
  have z1 := (blk_cell h.head 1).trans (show (#[.int .i64 win, .map (some mb), .int .i64 (Hd.cnt (Hd.abs S) : Nat)] : Array Value)[1]? = some (.map (some mb)) from rfl)
  clear h hs hk hC hc hn
  go_enter Try.func26, Try.ntmps26
  go_upto_region 1 with fail
  go_region_with (go_at_call 62; (with_reducible refine HTX.out.mono ?_); rintro e_ W2 ⟨rfl, hb2'⟩; have hb2 := below_step (below_drew1 (Below.refl _ _)) hb2'; have z1' := pw_cell_below hb2 z1; have HB2 := Aside0.mk hb2; have hlook := (HH.out.below hb2).look_miss HS.out HK.out; clear hb2 hb2')
  all_goals (
    go_wp2
    go_ret
    exact ⟨rfl, HB2.out⟩)
end
/-! ### HeadLast, in plain lists -/
section
namespace Hd
def xs (T V : Nat → Int) : Nat → List S44
  | 0 => []
  | i + 1 => putS (xs T V i) ⟨T i, V i⟩
def Lx (T V : Nat → Int) (i : Nat) : A := if i = 0 then [] else [(lab sx, xs T V i)]
def want (T V : Nat → Int) (t : Int) : Nat → Int × Bool
  | 0 => (0, false)
  | i + 1 => if T i = t then (V i, true) else want T V t i
theorem xs_rising (T V : Nat → Int) : ∀ i, rising (xs T V i)
  | 0 => List.Pairwise.nil
  | i + 1 => putS_rising (xs_rising T V i)
theorem xs_len (T V : Nat → Int) : ∀ i, (xs T V i).length ≤ i
  | 0 => Nat.le_refl _
  | i + 1 => by have := xs_len T V i; have h := (putS_len (xs T V i) ⟨T i, V i⟩).2.2; show (putS _ _).length ≤ _; omega
theorem putS_self : ∀ (l : List S44) (s : S44), s ∈ putS l s
  | [], s => by simp [putS]
  | x :: l, s => by
    rw [putS]
    split
    · exact List.mem_cons_of_mem _ (putS_self l s)
    · split <;> simp
theorem putS_keep : ∀ (l : List S44) (s y : S44), y ∈ l → ∃ x ∈ putS l s, x.f0 = y.f0
  | [], s, y, h => by cases h
  | x :: l, s, y, h => by
    rw [putS]
    split
    · rcases List.mem_cons.1 h with h | h
      · exact ⟨x, List.mem_cons_self, by rw [h]⟩
      · obtain ⟨z, hz, he⟩ := putS_keep l s y h
        exact ⟨z, List.mem_cons_of_mem _ hz, he⟩
    · split
      · rename_i h2
        rcases List.mem_cons.1 h with h | h
        · exact ⟨s, List.mem_cons_self, by rw [h, h2]⟩
        · exact ⟨y, List.mem_cons_of_mem _ h, rfl⟩
      · exact ⟨y, List.mem_cons_of_mem _ h, rfl⟩
theorem rising_eq : ∀ {l : List S44}, rising l → ∀ x ∈ l, ∀ y ∈ l, x.f0 = y.f0 → x = y
  | [], _, x, hx, _, _, _ => by cases hx
  | a :: l, h, x, hx, y, hy, he => by
    obtain ⟨h1, h2⟩ := List.pairwise_cons.1 h
    rcases List.mem_cons.1 hx with hx | hx <;> rcases List.mem_cons.1 hy with hy | hy
    · rw [hx, hy]
    · have := h1 y hy; rw [hx] at he; omega
    · have := h1 x hx; rw [hy] at he; omega
    · exact rising_eq h2 x hx y hy he
theorem xs_want (T V : Nat → Int) : ∀ n, ∀ x ∈ xs T V n, want T V x.f0 n = (x.f1, true)
  | 0, x, h => by cases h
  | n + 1, x, h => by
    have hs := putS_self (xs T V n) ⟨T n, V n⟩
    unfold want
    by_cases he : T n = x.f0
    · rw [if_pos he]
      have := rising_eq (xs_rising T V (n + 1)) x h _ hs he.symm
      rw [this]
    · rw [if_neg he]
      rcases putS_mem h with h1 | h1
      · exact absurd (by rw [h1]) he
      · exact xs_want T V n x h1
theorem xs_has (T V : Nat → Int) : ∀ n i, i < n → ∃ x ∈ xs T V n, x.f0 = T i
  | 0, i, h => by omega
  | n + 1, i, h => by
    by_cases he : i = n
    · exact ⟨_, putS_self _ _, by rw [he]⟩
    · obtain ⟨y, hy, h2⟩ := xs_has T V n i (by omega)
      obtain ⟨x, hx, h3⟩ := putS_keep _ ⟨T n, V n⟩ y hy
      exact ⟨x, hx, by rw [h3, h2]⟩
theorem xs_from (T V : Nat → Int) : ∀ n, ∀ x ∈ xs T V n, ∃ i, i < n ∧ x.f0 = T i
  | 0, x, h => by cases h
  | n + 1, x, h => by
    rcases putS_mem h with h1 | h1
    · exact ⟨n, by omega, by rw [h1]⟩
    · obtain ⟨i, hi, h2⟩ := xs_from T V n x h1
      exact ⟨i, by omega, h2⟩
theorem xs_ne (T V : Nat → Int) {i : Nat} (h : 0 < i) : xs T V i ≠ [] := by
  cases i with
  | zero => omega
  | succ i => exact putS_ne _ _
theorem cnt_Lx (T V : Nat → Int) (i : Nat) : cnt (Lx T V i) ≤ i := by
  unfold Lx
  by_cases h : i = 0
  · rw [if_pos h]; exact Nat.zero_le _
  · rw [if_neg h]
    have := xs_len T V i
    simp only [cnt, List.map_cons, List.map_nil, List.sum_cons, List.sum_nil]
    omega
theorem writeLx (T V : Nat → Int) (i : Nat) (hb : ∀ j, j ≤ i → -1000 ≤ T j ∧ T j ≤ 1000) : writeF 9007199254740992 (Lx T V i) [⟨lab sx, ⟨T i, V i⟩⟩] = (0, Lx T V (i + 1)) := by
  have hbi := hb i (Nat.le_refl _)
  rw [writeF_one (by decide) (by decide) _ _ (by omega)]
  unfold Lx
  rw [if_neg (show ¬ i + 1 = 0 by omega)]
  by_cases h : i = 0
  · subst h
    rfl
  · rw [if_neg h, find_hit]
    obtain ⟨x, hx, he⟩ := lastT_mem (xs_ne T V (i := i) (by omega))
    obtain ⟨j, hj, h2⟩ := xs_from T V i x hx
    have hbj := hb j (by omega)
    simp only
    rw [if_neg (by omega)]
    unfold putL
    rw [find_hit]
    show (0, setA [(lab sx, xs T V i)] (lab sx) (putS (xs T V i) ⟨T i, V i⟩)) = _
    rw [setA, if_pos (lcl_self _)]
    rfl
theorem xs_step (T V : Nat → Int) (n j : Nat) (x y : S44) (hx : (xs T V n)[j]? = some x) (hy : (xs T V n)[j + 1]? = some y) : x.f0 < y.f0 := by
  have h := xs_rising T V n
  obtain ⟨h1, h2⟩ := List.getElem?_eq_some_iff.1 hx
  obtain ⟨h3, h4⟩ := List.getElem?_eq_some_iff.1 hy
  have := List.pairwise_iff_getElem.1 h j (j + 1) h1 h3 (by omega)
  rw [h2, h4] at this
  exact this
theorem labC {W : World} {g : Nat} {s : ByteArray} (hg : W.heap[g]? = some (.cells #[.string ⟨#[97]⟩, .string s] 53 (0, 0))) : Kd.C k53 W (some ⟨g, 0, none⟩) 1 (lab s) := by
  refine ⟨rfl, by decide, fun _ => ⟨_, rfl, fun j x hj => ?_⟩⟩
  have hj0 : j = 0 := by
    have := (List.getElem?_eq_some_iff.1 hj).1
    have h2 : (lab s).length = 1 := rfl
    omega
  subst hj0
  have hx : x = ⟨⟨#[97]⟩, s⟩ := by
    have h2 : (lab s)[0]? = some ⟨⟨#[97]⟩, s⟩ := rfl
    rw [h2] at hj
    injection hj with hj
    exact hj.symm
  refine ⟨[.string ⟨#[97]⟩, .string s], rfl, ?_, fun i u hu => ?_⟩
  · rw [hx]
    exact k53_mk W _
  · rw [add_plain]
    simp only [Nat.zero_mul, Nat.zero_add]
    rw [blk_cell hg]
    simpa using hu
end Hd
theorem head_Samples.lx {base hb mb : Nat} {win : Int} {S : List Hd.Ent} {W : World} (h : Hd.HR base hb mb win S W) {T V : Nat → Int} {n : Nat} (hn : n ≤ 100) (hS : Hd.abs S = Hd.Lx T V n) (g : Nat) (hg : W.heap[g]? = some (.cells #[.string ⟨#[97]⟩, .string ⟨#[120]⟩] 53 (0, 0))) :
    Calls Try.prog 26 #[.pointer (some ⟨hb, 0, none⟩), .slice (some ⟨g, 0, none⟩) 1 1] W fun e' w' => ∃ A c, e' = .returned (.slice A (Hd.xs T V n).length c) ∧ Kd.C k44 w' A (Hd.xs T V n).length (Hd.xs T V n) ∧ Below W.heap.size W w' := by
  have hmk := Hd.mk_lab (s := Hd.sx) (by decide) (by decide)
  have hC := Hd.labC hg
  have hl := Hd.xs_len T V n
  by_cases h0 : n = 0
  · subst h0
    have hS0 : S = [] := by
      have : Hd.abs S = [] := hS
      unfold Hd.abs at this
      exact List.map_eq_nil_iff.1 this
    subst hS0
    obtain ⟨kl, h1, _⟩ := Hd.keyOf_txt' (Hd.lab Hd.sx)
    refine (head_Samples.miss h (some ⟨g, 0, none⟩) 1 (Hd.lab Hd.sx) hC (Nat.le_refl _) h1 (fun e he => by cases he)).mono ?_
    rintro e w' ⟨rfl, hb⟩
    exact ⟨none, 0, rfl, Kd.C_nil _ _, hb⟩
  · have hf : Hd.find (Hd.abs S) (Hd.lab Hd.sx) = some (Hd.xs T V n) := by
      rw [hS]
      unfold Hd.Lx
      rw [if_neg h0, Hd.find_hit]
    obtain ⟨e, he, hel, hex⟩ := Hd.find_ent hf
    rw [← hex] at hl ⊢
    refine (head_Samples.hit h (some ⟨g, 0, none⟩) 1 (Hd.lab Hd.sx) _ hC (Nat.le_refl _) hmk he hel (by omega)).mono ?_
    rintro e' w' ⟨v, rfl, hr, hb⟩
    obtain ⟨A, c, rfl, _, hc⟩ := Kd.R_reads hr
    exact ⟨A, c, rfl, hc, hb⟩
end
end Go.Proofs.Ytcgocdhffcnleaa.PHead
