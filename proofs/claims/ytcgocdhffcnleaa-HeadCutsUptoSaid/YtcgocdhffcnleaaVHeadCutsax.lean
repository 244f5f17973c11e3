/- Parts of the proof of the law's row, put together: see the theorems' own lines. -/
import Derived.Test.YtcgocdhffcnleaaVHeadCutsav
import Derived.Test.YtcgocdhffcnleaaVHeadCutsaw
/- A part of the proofs about the head: see the theorems' own lines. -/
namespace Go.Proofs.Ytcgocdhffcnleaa.PHead
open Go Go.RowKit Go.Proofs.YtcgocdhffcnleaaW.PrintWords Go.Proofs.YtcgocdhffcnleaaW.PrintLast Go.Proofs.YtcgocdhffcnleaaW.PrintMore Go.Proofs.Ytcgocdhffcnleaa.XB Go.Proofs.Ytcgocdhffcnleaa.PHeadPlays Go.Proofs.Ytcgocdhffcnleaa.XH
set_option linter.unusedVariables false
set_option linter.unusedSimpArgs false
/-! ### told: the loop over the map, in any order -/
section
open Go.Shelf
structure Sr.TE (W : World) (e : Hd.Ent) : Prop where
  blk : W.heap[e.g]? = some (.cells #[e.lv, e.sv] 120 (0, 0))
  lab : ∃ A c, e.lv = .slice A e.ls.length c ∧ e.ls.length ≤ c ∧ k53.C W A e.ls.length e.ls ∧ e.ls.length < 1099511627776
  sam : ∃ A c, e.sv = .slice A e.xs.length c ∧ e.xs.length ≤ c ∧ k44.C W A e.xs.length e.xs ∧ e.xs.length < 1099511627776
theorem Sr.TE.below {W W' : World} {e : Hd.Ent} (h : Sr.TE W e) (hb : Below W.heap.size W W') : Sr.TE W' e := by
  obtain ⟨A, c, h1, h2, h3, h4⟩ := h.lab
  obtain ⟨A', c', h5, h6, h7, h8⟩ := h.sam
  exact ⟨blk_below h.blk hb, ⟨A, c, h1, h2, Kd.C_below h3 hb, h4⟩, ⟨A', c', h5, h6, Kd.C_below h7 hb, h8⟩⟩
theorem Sr.grown_then {a b c : World} {row : Option Nat} (h1 : Below a.heap.size a b) (h2 : b.grownBy c row) : a.grownBy c row :=
  ⟨h2.os.trans h1.os, h2.tape.trans h1.tape, h2.output.trans h1.output, Nat.le_trans h1.size h2.size, fun i hi hne => (h2.block i (Nat.lt_of_lt_of_le hi h1.size) hne).trans (h1.block i hi)⟩
def Sr.ser (e : Hd.Ent) : S68 := ⟨e.ls, e.xs⟩
/-- An entry of the map is one of the series. -/
theorem Sr.entry {D : DataW Unit} {S : List Hd.Ent} (hD : Hd.MapIs D S) {kl : Lit} {c : Value} {y : DataW Unit × List MemPlace} (hv : Hd.RP c = some y) (hat : ∀ zd, D.atKey kl zd = y.1) : ∃ e ∈ S, kl = Hd.key e.ls ∧ c = .pointer (some ⟨e.g, 0, none⟩) := by
  have hh : Maps.has D kl = true := by
    cases h : Maps.has D kl with
    | true => rfl
    | false =>
      have h1 := hat (.lit (.int .i64 (-2)))
      have h2 := hat (.lit (.int .i64 (-3)))
      rw [Maps.atKey_of_not_has h] at h1 h2
      have h3 := h1.trans h2.symm
      injection h3 with h3
      injection h3 with _ h3
      exact absurd h3 (by decide)
  obtain ⟨e, he, h2⟩ := hD.keys kl hh
  refine ⟨e, he, h2, ?_⟩
  have h3 := (hD.hit e he).2 (.lit (.int .i64 0))
  rw [← h2, hat] at h3
  obtain ⟨y1, y2⟩ := y
  dsimp only at h3
  subst h3
  exact Hd.RP_at hv
structure Sr.Seen (S vs : List Hd.Ent) (left : Lit → Bool) : Prop where
  sub : ∀ e ∈ vs, e ∈ S
  nd : vs.Nodup
  iff : ∀ e ∈ S, e ∈ vs ↔ left (Hd.key e.ls) = false
theorem Sr.ent_eq : ∀ {S : List Hd.Ent}, Hd.sorted (Hd.abs S) → ∀ a ∈ S, ∀ b ∈ S, a.ls = b.ls → a = b
  | [], _, a, ha, _, _, _ => by cases ha
  | e :: S, h, a, ha, b, hb, hab => by
    obtain ⟨h1, h2⟩ := List.pairwise_cons.1 (show (((e.ls, e.xs) :: Hd.abs S)).Pairwise fun a b => Hd.lcl a.1 b.1 < 0 from h)
    rcases List.mem_cons.1 ha with ha | ha <;> rcases List.mem_cons.1 hb with hb | hb
    · rw [ha, hb]
    · have := h1 (b.ls, b.xs) (List.mem_map_of_mem (f := fun e : Hd.Ent => (e.ls, e.xs)) hb)
      rw [ha] at hab
      rw [← hab, Hd.lcl_self] at this
      omega
    · have := h1 (a.ls, a.xs) (List.mem_map_of_mem (f := fun e : Hd.Ent => (e.ls, e.xs)) ha)
      rw [hb] at hab
      rw [hab, Hd.lcl_self] at this
      omega
    · exact Sr.ent_eq h2 a ha b hb hab
theorem Sr.nodup : ∀ {S : List Hd.Ent}, Hd.sorted (Hd.abs S) → S.Nodup
  | [], _ => List.nodup_nil
  | e :: S, h => by
    obtain ⟨h1, h2⟩ := List.pairwise_cons.1 (show (((e.ls, e.xs) :: Hd.abs S)).Pairwise fun a b => Hd.lcl a.1 b.1 < 0 from h)
    refine List.nodup_cons.2 ⟨fun hm => ?_, Sr.nodup h2⟩
    have := h1 (e.ls, e.xs) (List.mem_map_of_mem (f := fun e : Hd.Ent => (e.ls, e.xs)) hm)
    rw [Hd.lcl_self] at this
    omega
theorem Sr.Seen.step {S vs : List Hd.Ent} {left : Lit → Bool} (h : Sr.Seen S vs left) (hs : Hd.sorted (Hd.abs S)) (hm : ∀ e ∈ S, Hl.made e.ls) {e : Hd.Ent} (he : e ∈ S) (hl : left (Hd.key e.ls) = true) : Sr.Seen S (vs ++ [e]) (fun z => left z && !z.sameKey (Hd.key e.ls)) := by
  refine ⟨fun x hx => ?_, ?_, fun x hx => ?_⟩
  · rcases List.mem_append.1 hx with hx | hx
    · exact h.sub x hx
    · rw [List.mem_singleton.1 hx]; exact he
  · refine List.nodup_append.2 ⟨h.nd, by simp, fun a ha b hb => ?_⟩
    rw [List.mem_singleton.1 hb]
    intro hab
    rw [hab] at ha
    have := (h.iff e he).1 ha
    rw [hl] at this
    cases this
  · rw [List.mem_append, List.mem_singleton, h.iff x hx]
    by_cases hxe : x = e
    · rw [hxe, (WideAt.sameKey_iff (Hd.key_isKey e.ls)).2 rfl]
      simp
    · have hne : (Hd.key x.ls).sameKey (Hd.key e.ls) = false := by
        cases hk : (Hd.key x.ls).sameKey (Hd.key e.ls) with
        | false => rfl
        | true =>
          have h2 := Hd.key_inj (hm x hx) (hm e he) ((WideAt.sameKey_iff (Hd.key_isKey e.ls)).1 hk)
          exact absurd (Sr.ent_eq hs x hx e he h2) hxe
      rw [hne]
      simp [hxe]
theorem Sr.perm {S vs : List Hd.Ent} {left : Lit → Bool} (h : Sr.Seen S vs left) (hs : Hd.sorted (Hd.abs S)) (hl : ∀ kl, left kl = false) : vs.Perm S :=
  (List.perm_ext_iff_of_nodup h.nd (Sr.nodup hs)).2 fun a => ⟨h.sub a, fun ha => (h.iff a ha).2 (hl _)⟩
theorem Sr.Seen.len {S vs : List Hd.Ent} {left : Lit → Bool} (h : Sr.Seen S vs left) (hs : Hd.sorted (Hd.abs S)) : vs.length ≤ S.length := by
  have hp : vs.Perm (S.filter fun e => !left (Hd.key e.ls)) := (List.perm_ext_iff_of_nodup h.nd ((Sr.nodup hs).filter _)).2 fun a => by
    rw [List.mem_filter]
    refine ⟨fun ha => ⟨h.sub a ha, by rw [(h.iff a (h.sub a ha)).1 ha]; rfl⟩, fun ha => (h.iff a ha.1).2 ?_⟩
    have := ha.2
    cases hl : left (Hd.key a.ls) with
    | false => rfl
    | true => rw [hl] at this; cases this
  rw [hp.length_eq]
  exact List.length_filter_le _ _
/-- Two orders of the same series, both rising, are one. -/
theorem Sr.uniq : ∀ {xs ys : List S68}, xs.Perm ys → (xs.Pairwise fun x y => ¬ Sr.c y.f0 x.f0 < 0) → (ys.Pairwise fun x y => Sr.c x.f0 y.f0 < 0) → xs = ys
  | [], ys, h, _, _ => h.nil_eq
  | x :: xs, [], h, _, _ => absurd h.symm.nil_eq (by simp)
  | x :: xs, y :: ys, h, h1, h2 => by
    obtain ⟨a1, a2⟩ := List.pairwise_cons.1 h1
    obtain ⟨b1, b2⟩ := List.pairwise_cons.1 h2
    have hxy : x = y := by
      rcases List.mem_cons.1 (h.mem_iff.1 (List.mem_cons_self : x ∈ x :: xs)) with hx | hx
      · exact hx
      · have h3 := b1 x hx
        rcases List.mem_cons.1 (h.mem_iff.2 (List.mem_cons_self : y ∈ y :: ys)) with hy | hy
        · exact hy.symm
        · exact absurd h3 (a1 y hy)
    subst hxy
    rw [Sr.uniq (List.Perm.cons_inv h) a2 b2]
set_option maxHeartbeats 2000000 in
theorem Sr.ins_nil (A : Option Addr) (cap : Nat) (fv : Value) (w : World) : Calls Try.prog 160 #[.slice A 0 cap, .int .i64 0, .int .i64 0, fv] w fun e w' => e = .returned (.tuple #[]) ∧ w' = w := by
  go_enter Try.func160, Try.ntmps160
  go_wp2
  refine wp_loop_rounds 1 ?_
  rw [rounds_succ]
  go_wp2
  go_end0
  exact ⟨rfl, rfl⟩
set_option maxHeartbeats 2000000 in
theorem Sr.pdq_nil (A : Option Addr) (cap : Nat) (fv : Value) (n : Int) (w : World) : Calls Try.prog 143 #[.slice A 0 cap, .int .i64 0, .int .i64 0, .int .i64 n, fv] w fun e w' => e = .returned (.tuple #[]) ∧ w' = w := by
  go_enter Try.func143, Try.ntmps143
  go_wp2
  refine wp_loop_rounds 1 ?_
  rw [rounds_succ]
  go_wp2_with (go_at_call 160; refine (Sr.ins_nil _ _ _ _).mono ?_; rintro e w' ⟨rfl, rfl⟩)
  (try simp only [Exit.inBlock, Exit.then]); refine bodyPost_ret (results_none rfl _ _ _) rfl ?_
  exact ⟨rfl, rfl⟩
set_option maxHeartbeats 2000000 in
theorem Sr.sort_nil (A : Option Addr) (cap : Nat) (fv : Value) (w : World) : Calls Try.prog 121 #[.slice A 0 cap, fv] w fun e w' => e = .returned (.tuple #[]) ∧ w' = w := by
  have hl : Calls Try.prog 141 #[.int .u64 (0 : Int)] w fun e w' => e = .returned (.int .i64 ((Lib.bitLen 0 : Nat) : Int)) ∧ w' = w := by
    have h := Any.bits_Len (SlLaysF0.n15.bits (P := Try.prog) (ρ := Go.Proofs.Ytcgocdhffcnleaa.bitsLen_ren) Go.Proofs.Ytcgocdhffcnleaa.bitsLen) (0 : Int) w (by omega) (by omega)
    exact h
  go_enter Try.func121, Try.ntmps121
  go_wp2_with (first | (go_at_call 141; refine hl.mono ?_; rintro e w' ⟨rfl, rfl⟩) | (go_at_call 143; refine (Sr.pdq_nil _ _ _ _ _).mono ?_; rintro e w' ⟨rfl, rfl⟩))
  go_end0
  exact ⟨rfl, rfl⟩
theorem Sr.lowerR {W : World} {base g n cap : Nat} {out : List Sr.H} (h : W.ownsRow base 68 2 (.slice (some ⟨g, 0, none⟩) n cap) n (out.flatMap Sr.enc)) (hn : out.length = n)
    (hv : ∀ h ∈ out, k53.R 53 W base (fun k => k ≠ g) (.slice h.A h.x.f0.length h.c) h.x.f0 ∧ k44.R 44 W base (fun k => k ≠ g) (.slice h.B h.x.f1.length h.d) h.x.f1) : Kd.R k68 68 W base (fun _ => True) (.slice (some ⟨g, 0, none⟩) n cap) (out.map (·.x)) := by
  subst hn
  obtain ⟨_, inner, ho, hlen, hr⟩ := Sr.own_R h
  refine ⟨fun _ _ => trivial, inner, by rw [List.length_map]; exact ho, by rw [List.length_map]; exact hlen, fun j p hj => ?_⟩
  rw [List.getElem?_map] at hj
  obtain ⟨q, hq, hqp⟩ := Option.map_eq_some_iff.1 hj
  obtain ⟨v1, v2⟩ := hv q (List.mem_of_getElem? hq)
  have h3 : (inner.drop (j * 2)).take 2 = Sr.enc q := hr j q hq
  show k68.M _ _ _ _ ((inner.drop (j * 2)).take 2)
  rw [h3, ← hqp]
  exact k68_mkM W base _ q.x (Kd.R_mono v1 (fun k hk => ⟨trivial, fun e => hk (by injection e)⟩)) (Kd.R_mono v2 (fun k hk => ⟨trivial, fun e => hk (by injection e)⟩))
theorem Sr.rise : ∀ {S : List Hd.Ent}, Hd.sorted (Hd.abs S) → (S.map Sr.ser).Pairwise fun x y => Sr.c x.f0 y.f0 < 0 := by
  intro S h
  unfold Hd.sorted Hd.abs at h
  rw [List.pairwise_map] at h ⊢
  exact h
set_option maxHeartbeats 8000000 in
set_option maxRecDepth 100000 in
theorem Sr.told (mb : Nat) (S : List Hd.Ent) (D : DataW Unit) (W : World) (hm : W.ownsMap Try.prog 9 Hd.RP mb S.length D) (hD : Hd.MapIs D S) (hent : ∀ e ∈ S, Sr.TE W e) (hs : Hd.sorted (Hd.abs S)) (hmade : ∀ e ∈ S, Hl.made e.ls) (hl : S.length ≤ 1000) :
    Calls Try.prog 78 #[.map (some mb)] W fun e w' => ∃ A c, e = .returned (.slice A S.length c) ∧ Kd.R k68 68 w' W.heap.size (fun _ => True) (.slice A S.length c) (S.map Sr.ser) ∧ Below W.heap.size W w' := by
  have HM := Aside0.mk hm
  have HD := Aside0.mk hD
  have HE := Aside0.mk hent
  have HS := Aside0.mk hs
  have HMD := Aside0.mk hmade
  have hmlt := hm.lt
  have HMLT := Aside0.mk hmlt
  have HL := Aside0.mk hl
  have hown := hm
  clear hm hD hent hs hmade hl hmlt
  go_enter Try.func78, Try.ntmps78
  go_wp2_with (first | (at_range; refine wpList_range_own _ rfl _ 113 rfl 9 117 Hd.law9 Try.underlying113 Hd.RP mb _ _ rfl hown ?_; intro w0 hrg0 hg0 hs0) | go_in)
  obtain ⟨r, hr⟩ : ∃ r, r = W.heap.size := ⟨_, rfl⟩
  have HR := Aside0.mk hr
  rw [← hr] at hrg0 ⊢
  have HB0 := Aside0.mk (show Below W.heap.size W w0 from ⟨hg0.os, hg0.tape, hg0.output, hg0.size, fun i hi => hg0.block i hi (by simp)⟩)
  have hmr : mb < r := by rw [hr]; exact HMLT.out
  clear hr hown hg0 hs0
  go_frame
  go_loopg [3] S.length (fun kx v3 wr => ∃ (left : Lit → Bool) (cnt : Nat) (vs : List Hd.Ent), wr.ranges Try.prog 9 Hd.RP mb r S.length D left cnt ∧ cnt ≤ kx ∧ Aside0 (Sr.Seen S vs left) ∧ Aside0 (Kd.R k68 68 wr (r + 1) (fun _ => True) v3 (vs.map Sr.ser)) ∧ Aside0 (Below W.heap.size W wr))
  case atStart =>
    refine ⟨_, _, [], hrg0, by rw [HD.out.size]; exact Nat.le_refl _, ⟨⟨fun e he => (by cases he), List.nodup_nil, fun e he => ⟨fun h => (by cases h), fun h => ?_⟩⟩⟩, ⟨Kd.R_nil _ _ _ _ _⟩, HB0⟩
    have h2 := (HD.out.hit e he).1
    rw [h] at h2
    cases h2
  case round =>
    clear hrg0 HB0
    obtain ⟨left, cnt, vs, hrg, hcx, HSN, HO, HB⟩ := hrel
    go_wp2_with (first
      | (at_next; refine wpList_next_ranges _ rfl _ rfl 9 Hd.law9 Hd.RP id id (fun key _ _ => ⟨key, rfl⟩) (fun v _ _ => ⟨v, rfl⟩) mb r S.length _ _ _ rfl hrg ?_ ?_)
      | go_in)
    · intro hc0 hl0
      have hp := Sr.perm HSN.out HS.out hl0
      obtain ⟨A, c, ev⟩ := Kd.R_slice HO.out
      subst ev
      have hvl : (vs.map Sr.ser).length = S.length := by rw [List.length_map, hp.length_eq]
      clear hrg
      by_cases h0 : S.length = 0
      · have hS0 : S = [] := List.eq_nil_of_length_eq_zero h0
        subst hS0
        have hC := Kd.R_lower HO.out (show W.heap.size ≤ r + 1 by have := HR.out; omega)
        have hv0 : vs = [] := hp.eq_nil
        subst hv0
        simp only [List.map_nil, List.length_nil] at hC ⊢
        have HC := Aside0.mk hC
        clear hC
        go_wp2_with (go_at_call 121; refine (Sr.sort_nil _ _ _ _).mono ?_; rintro e w' ⟨rfl, rfl⟩)
        go_ret
        exact ⟨A, c, rfl, HC.out, HB.out⟩
      · have hvp : 0 < (vs.map Sr.ser).length := by omega
        obtain ⟨g, cap, esv, hbg, hlt, _⟩ := Kd.R_form HO.out hvp
        injection esv with esv1 _ esv3
        subst esv1
        subst esv3
        obtain ⟨hs, hx, hst, hsr, hown⟩ := Sr.lift2 HO.out
        have HSR := Aside0.mk hsr
        have hlen : hs.length = (vs.map Sr.ser).length := by rw [← hx, List.length_map]
        have hls : ∀ h ∈ hs, h.x.f0.length < 1099511627776 := fun h hh => by
          have h1 : h.x ∈ vs.map Sr.ser := by rw [← hx]; exact List.mem_map_of_mem hh
          obtain ⟨e, he, h2⟩ := List.mem_map.1 h1
          obtain ⟨_, _, _, _, _, h3⟩ := (HE.out e (HSN.out.sub e he)).lab
          rw [← h2]
          exact h3
        have hne : hs ≠ [] := fun e => by rw [e] at hlen; simp only [List.length_nil] at hlen; omega
        rw [← hlen] at hown
        have HST := Aside0.mk hst
        have HSORT := Aside0.mk (Sr.sort g c hs (r + 1) wr hne (by have := HL.out; omega) (fun h hh => ⟨hst h hh, hls h hh⟩) hown)
        have hlS : hs.length = S.length := by omega
        rw [hlen, hvl] at HSORT
        rw [hvl]
        have HPS := Aside0.mk (show (hs.map (·.x)).Perm (S.map Sr.ser) by rw [hx]; exact hp.map _)
        have HLS := Aside0.mk hlS
        have HG := Aside0.mk hbg
        clear hx hst hsr hown hlen hls hne hlS hvp hp hvl hbg hlt
        go_wp2_with (go_at_call 121; refine HSORT.out.mono ?_; rintro e w' ⟨rfl, out, hperm, hpw, ho', hg'⟩)
        go_ret
        have hm : out.map (·.x) = S.map Sr.ser := Sr.uniq ((hperm.map _).trans HPS.out) (by rw [List.pairwise_map]; exact hpw.imp (fun h => Int.not_lt.2 h)) (Sr.rise HS.out)
        refine ⟨_, c, rfl, ?_, pw_below_grown HB.out (some g) HB.out.size hg' (fun k hk => by injection hk with hk; have := HR.out; have := HG.out; omega)⟩
        rw [← hm]
        exact Kd.R_lower (Sr.lowerR ho' (by rw [hperm.length_eq]; exact HLS.out) (fun h hh => HSR.out h (hperm.mem_iff.1 hh) _ (fun k hk hlt => hg'.block k hlt (fun e => hk (by injection e))))) (show W.heap.size ≤ r + 1 by have := HR.out; omega)
    · intro x c kl yd yp w2 cnt2 hkey hlx hv hat hrg2 hlt hg2 hs2 hen
      obtain ⟨e, he, hkl, hc⟩ := Sr.entry HD.out (y := (yd, yp)) hv hat
      subst hkl
      subst hc
      have HEW := HE.out e he
      have HBW2 := Aside0.mk (pw_below_grown HB.out (some r) HB.out.size hg2 (fun k hk => by injection hk with hk; rw [← hk, HR.out]; exact Nat.le_refl _))
      have HLE := Aside0.mk (show r + 1 ≤ w2.heap.size from hrg2.lt)
      have HO2 := Aside0.mk (Kd.R_mono (Kd.R_move (Kd.R_bound HO.out) (fun k hk => hg2.block k hk.2.2.1 (fun e => by injection e with e; have := hk.2.1; omega))) (fun k hk => hk.1))
      obtain ⟨B, hBr⟩ : ∃ B, B = r + 1 := ⟨_, rfl⟩
      rw [← hBr] at HLE HO2
      have hTE := HEW.below HBW2.out
      obtain ⟨Al, cl, el, hcl, hCl, hll⟩ := hTE.lab
      obtain ⟨As, cs, es, hcs, hCs, hls⟩ := hTE.sam
      have HCL := Aside0.mk (fun (W' : World) (hb : Below w2.heap.size w2 W') => api_Label.calls Al cl e.ls e.ls W' (Kd.C_below hCl hb) hcl (by unfold api_Label.f; rw [if_pos (by omega)]))
      have HCS := Aside0.mk (fun (W' : World) (hb : Below w2.heap.size w2 W') => api_Sample_73.calls As cs e.xs e.xs W' (Kd.C_below hCs hb) hcs (by unfold api_Sample_73.f; rw [if_pos (by omega)]))
      obtain ⟨nl, hnl⟩ : ∃ n, n = e.ls.length := ⟨_, rfl⟩
      obtain ⟨ns, hns⟩ : ∃ n, n = e.xs.length := ⟨_, rfl⟩
      obtain ⟨eg, heg⟩ : ∃ n, n = e.g := ⟨_, rfl⟩
      have hbk := HEW.blk
      rw [el, es, ← hnl, ← hns, ← heg] at hbk
      have z0' : W.cell? ⟨eg, 0, none⟩ = some (.slice Al nl cl) := (blk_cell hbk 0).trans rfl
      have z1' : W.cell? ⟨eg, 1, none⟩ = some (.slice As ns cs) := (blk_cell hbk 1).trans rfl
      have z0 := pw_cell_below HBW2.out z0'
      have z1 := pw_cell_below HBW2.out z1'
      rw [← hnl] at HCL
      rw [← hns] at HCS
      have HZ := Aside0.mk (show ∀ W5, Below B w2 W5 → Below W.heap.size W W5 from fun W5 h => Below.trans HBW2.out (h.mono (by rw [hBr, HR.out]; omega)))
      obtain ⟨out, hout⟩ : ∃ out, out = vs.map Sr.ser := ⟨_, rfl⟩
      rw [← hout] at HO2
      have HLN := Aside0.mk (show out.length ≤ 1000 by rw [hout, List.length_map]; exact Nat.le_trans (HSN.out.len HS.out) HL.out)
      have HOUT := Aside0.mk hout
      have HBR := Aside0.mk hBr
      have HLX := Aside0.mk hlx
      clear hkey hlx hv hat HEW hTE el es hcl hCl hll hcs hCs hls hbk hout hBr hnl hns HO HB
      rw [← heg] at hen ⊢
      clear heg
      go_upto_region 5 with fail
      refine start_ (n := 15) (S := fun w' => w'.cell? ⟨eg, 0, none⟩ = some (.slice Al nl cl) ∧ w'.cell? ⟨eg, 1, none⟩ = some (.slice As ns cs)) (ds := []) #[false, false, false, false, false, false, false, false, false, false, false, false, false, false, false] (by kernel_rfl) rfl rfl ⟨z0, z1⟩ (fun hHeld => ?_)
      have HBD := Aside0.mk (below_drew1 (Below.refl w2.heap.size w2))
      have HOD := Aside0.mk (Kd.R_drew HO2.out)
      generalize w2.drew = WD at HBD HOD hHeld ⊢
      refine pure_ (i := 0) (N := (some 12)) (v := ?_) (a' := ?_) #[true, false, false, false, false, false, false, false, false, false, false, false, false, false, false] rfl rfl (by kernel_rfl) (fun _ _ _ h => h) (Or.inl ⟨by rfl, ?_⟩) ?_ ?_
      rotate_left
      · intro w'
        go_simp
        with_reducible rfl
      rotate_left
      · simp only [Act.put, List.setIfInBounds_toArray, List.set_cons_zero, List.set_cons_succ, i64_w, i32_w]
        rfl
      refine pure_ (i := 1) (N := (some 13)) (v := ?_) (a' := ?_) #[true, true, false, false, false, false, false, false, false, false, false, false, false, false, false] rfl rfl (by kernel_rfl) (fun _ _ _ h => h) (Or.inl ⟨by rfl, ?_⟩) ?_ ?_
      rotate_left
      · intro w'
        go_simp
        with_reducible rfl
      rotate_left
      · simp only [Act.put, List.setIfInBounds_toArray, List.set_cons_zero, List.set_cons_succ, i64_w, i32_w]
        rfl
      refine pure_ (i := 2) (N := (some 14)) (v := ?_) (a' := ?_) #[true, true, true, false, false, false, false, false, false, false, false, false, false, false, false] rfl rfl (by kernel_rfl) (fun _ _ _ h => h) (Or.inl ⟨by rfl, ?_⟩) ?_ ?_
      rotate_left
      · intro w'
        go_simp
        with_reducible rfl
      rotate_left
      · simp only [Act.put, List.setIfInBounds_toArray, List.set_cons_zero, List.set_cons_succ, i64_w, i32_w]
        rfl
      refine pure_ (i := 3) (N := (some 15)) (v := ?_) (a' := ?_) #[true, true, true, true, false, false, false, false, false, false, false, false, false, false, false] rfl rfl (by kernel_rfl) (fun _ _ _ h => h) (Or.inl ⟨by rfl, ?_⟩) ?_ ?_
      rotate_left
      · intro w'
        go_simp
        with_reducible rfl
      rotate_left
      · simp only [Act.put, List.setIfInBounds_toArray, List.set_cons_zero, List.set_cons_succ, i64_w, i32_w]
        rfl
      refine take_ (i := 4) (N := (some 16)) (v := ?_) (a' := ?_) #[true, true, true, true, true, false, false, false, false, false, false, false, false, false, false] rfl rfl (by kernel_rfl) (fun _ _ _ h => h) (Or.inl ⟨by rfl, ?_⟩) hHeld ?_ ?_
      rotate_left
      · rintro w' ⟨s0, s1⟩
        go_simp
        with_reducible rfl
      rotate_left
      · simp only [Act.put, List.setIfInBounds_toArray, List.set_cons_zero, List.set_cons_succ, i64_w, i32_w]
        rfl
      refine pure_ (i := 6) (N := (some 18)) (v := ?_) (a' := ?_) #[true, true, true, true, true, false, true, false, false, false, false, false, false, false, false] rfl rfl (by kernel_rfl) (fun _ _ _ h => h) (Or.inl ⟨by rfl, ?_⟩) ?_ ?_
      rotate_left
      · intro w'
        go_simp
        with_reducible rfl
      rotate_left
      · simp only [Act.put, List.setIfInBounds_toArray, List.set_cons_zero, List.set_cons_succ, i64_w, i32_w]
        rfl
      refine pure_ (i := 7) (N := (some 19)) (v := ?_) (a' := ?_) #[true, true, true, true, true, false, true, true, false, false, false, false, false, false, false] rfl rfl (by kernel_rfl) (fun _ _ _ h => h) (Or.inl ⟨by rfl, ?_⟩) ?_ ?_
      rotate_left
      · intro w'
        go_simp
        with_reducible rfl
      rotate_left
      · simp only [Act.put, List.setIfInBounds_toArray, List.set_cons_zero, List.set_cons_succ, i64_w, i32_w]
        rfl
      refine pure_ (i := 8) (N := (some 20)) (v := ?_) (a' := ?_) #[true, true, true, true, true, false, true, true, true, false, false, false, false, false, false] rfl rfl (by kernel_rfl) (fun _ _ _ h => h) (Or.inl ⟨by rfl, ?_⟩) ?_ ?_
      rotate_left
      · intro w'
        go_simp
        with_reducible rfl
      rotate_left
      · simp only [Act.put, List.setIfInBounds_toArray, List.set_cons_zero, List.set_cons_succ, i64_w, i32_w]
        rfl
      refine take_ (i := 9) (N := (some 21)) (v := ?_) (a' := ?_) #[true, true, true, true, true, false, true, true, true, true, false, false, false, false, false] rfl rfl (by kernel_rfl) (fun _ _ _ h => h) (Or.inl ⟨by rfl, ?_⟩) hHeld ?_ ?_
      rotate_left
      · rintro w' ⟨s0, s1⟩
        go_simp
        with_reducible rfl
      rotate_left
      · simp only [Act.put, List.setIfInBounds_toArray, List.set_cons_zero, List.set_cons_succ, i64_w, i32_w]
        rfl
      refine one_ (i := 5) (N := (some 17)) #[true, true, true, true, true, true, true, true, true, true, false, false, false, false, false] rfl rfl (by kernel_rfl) (by decide) (fun K hK => ?_)
      refine goes_ Try.func63 (by kernel_rfl) rfl #[.slice Al nl cl] (by rfl) rfl rfl (by first | (simp; done) | ((try simp only [List.map_toArray, List.map_cons, List.map_nil]); first | done | rfl)) ?_
      (with_reducible refine (HCL.out WD HBD.out).mono ?_)
      rintro e W3 ⟨v3, rfl, hr3, hb3⟩
      refine ⟨_, rfl, ?_⟩
      have HB3 := Aside0.mk (below_step HBD.out hb3)
      have HL3 := Aside0.mk (Kd.R_lower hr3 (Nat.le_trans HLE.out HBD.out.size))
      have HO3 := Aside0.mk (Kd.R_below HOD.out hb3)
      have HL3N := Aside0.mk (show ∀ k, v3.ownBlock = some k → WD.heap.size ≤ k from Kd.R_base hr3)
      clear hr3 hb3 HOD
      refine hK.out _ _ ⟨pw_cell_below HB3.out z0, pw_cell_below HB3.out z1⟩ (fun hHeld => ?_)
      clear hK K
      refine norm_ (a' := ?_) ?_ ?_
      rotate_left
      · show Act.put _ (some 17) _ = _
        simp only [Act.put, List.setIfInBounds_toArray, List.set_cons_zero, List.set_cons_succ, i64_w, i32_w]
        rfl
      refine one_ (i := 10) (N := (some 22)) #[true, true, true, true, true, true, true, true, true, true, true, false, false, false, false] rfl rfl (by kernel_rfl) (by decide) (fun K hK => ?_)
      refine goes_ Try.func73 (by kernel_rfl) rfl #[.slice As ns cs] (by rfl) rfl rfl (by first | (simp; done) | ((try simp only [List.map_toArray, List.map_cons, List.map_nil]); first | done | rfl)) ?_
      (with_reducible refine (HCS.out W3 HB3.out).mono ?_)
      rintro e W4 ⟨v4, rfl, hr4, hb4⟩
      refine ⟨_, rfl, ?_⟩
      have HB4 := Aside0.mk (below_step HB3.out hb4)
      have HL4 := Aside0.mk (Kd.R_below HL3.out hb4)
      have HS4 := Aside0.mk (Kd.R_lower hr4 (Nat.le_trans HLE.out HB3.out.size))
      have HO4 := Aside0.mk (Kd.R_below HO3.out hb4)
      clear hr4 hb4 HO3 HL3
      obtain ⟨Al4, cl4, el4⟩ := Kd.R_slice HL4.out
      subst el4
      obtain ⟨As4, cs4, es4⟩ := Kd.R_slice HS4.out
      subst es4
      refine hK.out _ _ ⟨pw_cell_below HB4.out z0, pw_cell_below HB4.out z1⟩ (fun hHeld => ?_)
      clear hK K
      refine norm_ (a' := ?_) ?_ ?_
      rotate_left
      · show Act.put _ (some 22) _ = _
        simp only [Act.put, List.setIfInBounds_toArray, List.set_cons_zero, List.set_cons_succ, i64_w, i32_w]
        rfl
      refine pure_ (i := 11) (N := (some 23)) (v := ?_) (a' := ?_) #[true, true, true, true, true, true, true, true, true, true, true, true, false, false, false] rfl rfl (by kernel_rfl) (fun _ _ _ h => h) (Or.inl ⟨by rfl, ?_⟩) ?_ ?_
      rotate_left
      · intro w'
        go_simp
        with_reducible rfl
      rotate_left
      · simp only [Act.put, List.setIfInBounds_toArray, List.set_cons_zero, List.set_cons_succ, i64_w, i32_w]
        rfl
      refine one_ (i := 12) (N := (some 24)) #[true, true, true, true, true, true, true, true, true, true, true, true, true, false, false] rfl rfl (by kernel_rfl) (by decide) (fun K hK => ?_)
      refine value_ (w1 := ?_) (v := ?_) (by rfl) rfl ?_ ?_
      rotate_left 2
      · go_simp
        constructor
        · rfl
        · rfl
      refine hK.out _ _ ⟨pw_cell_below (below_alloc HB4.out _) z0, pw_cell_below (below_alloc HB4.out _) z1⟩ (fun hHeld => ?_)
      clear hK K
      refine norm_ (a' := ?_) ?_ ?_
      rotate_left
      · show Act.put _ (some 24) _ = _
        simp only [Act.put, List.setIfInBounds_toArray, List.set_cons_zero, List.set_cons_succ, i64_w, i32_w]
        rfl
      refine one_ (i := 13) (N := (some 25)) #[true, true, true, true, true, true, true, true, true, true, true, true, true, true, false] rfl rfl (by kernel_rfl) (by decide) (fun K hK => ?_)
      refine Kd.R_append_step k68 (w0 := w2) B (by rfl) (.tmp 12) (.tmp 24) 62 68 (.agg #[(.slice none 0 0), (.slice none 0 0)]) 48 rfl Try.underlying62 info68 rfl (by decide) (by omega) u3 out (⟨e.ls, e.xs⟩ : S68) [.slice Al4 e.ls.length cl4, .slice As4 e.xs.length cs4] (fun _ => True) (fun k_ => ((fun _ => True)) k_ ∧ some k_ ≠ (u3 : Value).ownBlock) rfl rfl ?aP (fun _ hk => hk) ?aF ?aO ?aB ?aS ?aL ?_
      (case aP => exact k68_mkM _ _ _ (⟨e.ls, e.xs⟩ : S68) (Kd.R_mono (Kd.R_apart' HL4.out (Kd.R_typed HO4.out) (by decide)) (fun k_ hk => ⟨trivial, hk.2⟩)) (Kd.R_mono (Kd.R_apart' HS4.out (Kd.R_typed HO4.out) (by decide)) (fun k_ hk => ⟨trivial, hk.2⟩)))
      (case aB => exact Below.mono HB4.out HLE.out)
      (case aF => exact (fun _ _ => trivial))
      (case aO => exact HO4.out)
      (case aS => exact Nat.le_trans HLE.out (below_size HB4.out))
      (case aL => have := HLN.out; omega)
      intro v5 W5 ho hb hg hat
      have HO5 := Aside0.mk ho
      have HB5 := Aside0.mk hb
      have HG5 := Aside0.mk (Sr.grown_then HB4.out hg)
      clear ho hb hg hat
      refine hK.out _ _ ⟨pw_cell_below (HZ.out _ HB5.out) z0', pw_cell_below (HZ.out _ HB5.out) z1'⟩ (fun hHeld => ?_)
      clear hK K
      refine norm_ (a' := ?_) ?_ ?_
      rotate_left
      · show Act.put _ (some 25) _ = _
        simp only [Act.put, List.setIfInBounds_toArray, List.set_cons_zero, List.set_cons_succ, i64_w, i32_w]
        rfl
      refine pure_ (i := 14) (N := (some 3)) (v := ?_) (a' := ?_) #[true, true, true, true, true, true, true, true, true, true, true, true, true, true, true] rfl rfl (by kernel_rfl) (fun _ _ _ h => h) (Or.inl ⟨by rfl, ?_⟩) ?_ ?_
      rotate_left
      · intro w'
        go_simp
        with_reducible rfl
      rotate_left
      · simp only [Act.put, List.setIfInBounds_toArray, List.set_cons_zero, List.set_cons_succ, i64_w, i32_w]
        rfl
      refine done_ (by kernel_rfl) ?_
      go_wp2
      go_roundg cnt2
      case measure => omega
      case rel =>
        have hrow : ∀ k, u3.ownBlock = some k → r + 1 ≤ k := fun k hk => by rw [← HBR.out]; exact Kd.R_base HO2.out k hk
        have hnm : ∀ k, k ≤ r → some k ≠ u3.ownBlock := fun k hk e => by have := hrow k e.symm; omega
        refine ⟨_, cnt2, vs ++ [e], hrg2.kept HG5.out (hnm mb (by omega)) (hnm r (Nat.le_refl _)), by omega, ⟨?_⟩, ⟨?_⟩, ⟨HZ.out _ HB5.out⟩⟩
        · exact HSN.out.step HS.out HMD.out he HLX.out
        · rw [List.map_append, ← HOUT.out, ← HBR.out]
          exact HO5.out
end
/-! ### All -/
section
theorem Hd.made_len {l : List S53} (h : Hl.made l) : l.length ≤ 16 := h.2.2.2
def Hd.out (L : Hd.A) : List S68 := L.map fun p => ⟨p.1, p.2⟩
theorem Hd.out_abs (S : List Hd.Ent) : S.map Sr.ser = Hd.out (Hd.abs S) := by
  unfold Hd.out Hd.abs
  rw [List.map_map]
  rfl
theorem Hd.xs_le : ∀ {S : List Hd.Ent} {e : Hd.Ent}, e ∈ S → e.xs.length ≤ Hd.cnt (Hd.abs S)
  | q :: S, e, h => by
    have hc : Hd.cnt (Hd.abs (q :: S)) = q.xs.length + Hd.cnt (Hd.abs S) := by simp [Hd.cnt, Hd.abs]
    rcases List.mem_cons.1 h with h1 | h1
    · rw [h1, hc]; omega
    · have := Hd.xs_le h1
      omega
theorem Hd.HR.te {base hb mb : Nat} {win : Int} {S : List Hd.Ent} {W : World} (h : Hd.HR base hb mb win S W) (hct : Hd.cnt (Hd.abs S) < 1099511627776) : ∀ e ∈ S, Sr.TE W e := fun e he => by
  have hen := h.ent e he
  obtain ⟨A, c, e1, h1, h2⟩ := Kd.R_reads hen.lab
  obtain ⟨A', c', e2, h3, h4⟩ := Kd.R_reads hen.sam
  have hm := Hd.made_len (h.ok.made (e.ls, e.xs) (List.mem_map_of_mem he))
  have hx := Hd.xs_le he
  exact ⟨hen.blk, ⟨A, c, e1, h1, h2, by dsimp only at hm; omega⟩, ⟨A', c', e2, h3, h4, by omega⟩⟩
set_option maxHeartbeats 8000000 in
theorem head_All.calls {base hb mb : Nat} {win : Int} {S : List Hd.Ent} {W : World} (h : Hd.HR base hb mb win S W) (hct : Hd.cnt (Hd.abs S) < 1099511627776) :
    Calls Try.prog 31 #[.pointer (some ⟨hb, 0, none⟩)] W fun e w' => ∃ A c, e = .returned (.slice A (Hd.abs S).length c) ∧ Kd.R k68 68 w' W.heap.size (fun _ => True) (.slice A (Hd.abs S).length c) (Hd.out (Hd.abs S)) ∧ Below W.heap.size W w' := by
  obtain ⟨D, hm, hD⟩ := h.map
  have hl : (Hd.abs S).length = S.length := by unfold Hd.abs; rw [List.length_map]
  have HT := Aside0.mk (Sr.told mb S D W hm hD (h.te hct) h.ok.sorted (fun e he => h.ok.made (e.ls, e.xs) (List.mem_map_of_mem he)) (by have := h.ok.len; omega))
  have z1 := (blk_cell h.head 1).trans (show (#[.int .i64 win, .map (some mb), .int .i64 (Hd.cnt (Hd.abs S) : Nat)] : Array Value)[1]? = some (.map (some mb)) from rfl)
  rw [Hd.out_abs, ← hl] at HT
  clear h hct hm hD hl
  go_enter Try.func31, Try.ntmps31
  go_wp2_with (go_at_call 78; (with_reducible refine HT.out.mono ?_); rintro e w' ⟨A, c, rfl, hC, hb'⟩)
  go_ret
  exact ⟨A, c, rfl, hC, hb'⟩
end
end Go.Proofs.Ytcgocdhffcnleaa.PHead
