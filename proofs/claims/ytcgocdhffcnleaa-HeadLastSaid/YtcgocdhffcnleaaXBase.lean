/- Small lemmas that the walks of this seat use: the greatest number of an unsigned kind, and that it has no sign; a block that is known whole reads as a row of numbers. -/
import Derived.Test.YtcgocdhffcnleaaProg
import Derived.Test.YtcgocdhffcnleaaWMore
import Derived.Test.YtcgocdhffcnleaaWWords
import Derived.Test.YtcgocdhffcnleaaWLast
import Derived.WalkKit
import Derived.Lib.SlBytesConst
import Derived.Lib.Hide
import Derived.WalkSpells
import Derived.WalkMore
import Derived.ScopeJumps
namespace Go.Proofs.Ytcgocdhffcnleaa.XB
open Go Go.RowKit Go.Proofs.YtcgocdhffcnleaaW.PrintWords Go.Proofs.YtcgocdhffcnleaaW.PrintLast Go.Proofs.YtcgocdhffcnleaaW.PrintMore
theorem sg_u8 : IntKind.u8.signed = false := rfl
theorem sg_u16 : IntKind.u16.signed = false := rfl
theorem sg_u32 : IntKind.u32.signed = false := rfl
theorem sg_u64 : IntKind.u64.signed = false := rfl
theorem mx_u8 : IntKind.u8.max = 255 := rfl
theorem mx_u16 : IntKind.u16.max = 65535 := rfl
theorem mx_u32 : IntKind.u32.max = 4294967295 := rfl
theorem mx_u64 : IntKind.u64.max = 18446744073709551615 := rfl

theorem drewN_drew_ (w : World) (n : Nat) : (w.drewN n).drew = w.drew.drewN n := by rw [World.drew_drewN, World.drewN_drew, Nat.add_comm]

/-- A block that is known whole reads as a row of numbers. -/
theorem C_of_block (k : IntKind) {W : World} {g : Nat} {e : TypeId} {fr : Nat × Nat} (xs : List Int) (hn : xs.length ≤ 9223372036854775807) (h : W.heap[g]? = some (.cells (nums k xs).toArray e fr)) :
    Kd.C (Kd.int k) W (some ⟨g, 0, none⟩) xs.length xs := by
  refine ⟨rfl, hn, fun _ => ⟨_, rfl, fun j p hj => ⟨[.int k p], rfl, rfl, fun i u hu => ?_⟩⟩⟩
  have hi : i = 0 := by
    rcases i with _ | i
    · rfl
    · simp at hu
  subst hi
  have hu' : u = .int k p := by simpa using hu.symm
  subst hu'
  rw [show ((⟨g, 0, none⟩ : Addr).add (j * (Kd.int k).sz + 0)) = ⟨g, j, none⟩ from by rw [add_plain, show (Kd.int k).sz = 1 from rfl]; simp]
  rw [cell_of_row W g j _ e fr h]
  simp [nums, hj]

section
variable {P : Program} {α : Type} {d : Kd α} {e base n c c' : Nat} {ok : Nat → Prop} {W : World} {A : Option Addr} {xs : List α}
/-- A row that is only read, with another capacity. -/
theorem V_recap (h : Kd.V d e W base ok (.slice A n c) xs) (hc : n ≤ c') : Kd.V d e W base ok (.slice A n c') xs := by
  have hf := Kd.V_F h
  have hn : n = xs.length := by
    obtain ⟨A', c1, hv, _, _⟩ := h
    injection hv
  subst hn
  exact Kd.V_mk hc hf
/-- A cut with a capacity of its own. -/
theorem cut_to_max (t e : TypeId) (kh km : IntKind) {i : TypeInfo} (ht : P.underlying t = some (.slice e)) (hi : P.info? e = some i) (A : Option Addr) (n c : Nat) (j m : Int) (h0 : 0 ≤ j) (hjm : j ≤ m) (hm : m ≤ n) (hc : n ≤ c) :
    ∀ W : World, (Instr.slice t (.slice A n c) none (some (.int kh j)) (some (.int km m))).run P W = .ok (.slice A j.toNat m.toNat) W := by
  intro W
  have hel : P.elem t = e := by simp [Program.elem, ht]
  have hu : P.underlying t = some (.slice (P.elem t)) := by rw [hel]; exact ht
  have ha : (A.map fun x => x.add 0) = A := by cases A <;> simp [Addr.add]
  rw [run_slice_hm W t A n c hu kh km j m h0 hjm (by omega), hel]
  simp [sizeOf, typeInfo, hi, sliced, Result.andThen, ha]
end
section
variable {P : Program} {ops : Array Oper} {rest : List Oper} {o : Oper} {a : Act} {Q : Exit → Act → World → Prop} {W : World}
/-- The operation is a call of a function value that is known. -/
theorem gate_calleeD {x : Operand} {f : FuncId} {xs : Array Operand} {ts : Array TypeId} (_ho : o.op = .call { callee := .value x, args := xs, argTypes := ts }) (_hx : a.eval x = .func (.func f) #[] #[]) (h : wpList P ops Q (o :: rest) a W) : wpList P ops Q (o :: rest) a W := h
theorem goesLD_ {oi : Oper} (N : Option Tmp) (hd : oi.dst = N) (hg : oi.guard = none) {x : Operand} {f : FuncId} {fn : Func} {xs : Array Operand} {ts : Array TypeId} (hf : P.funcs[f]? = some fn) (hname : (fn.name == "runtime.NumGoroutine") = false) (hb : fn.body.isSome = true) (args : Array Value)
    (hop : oi.op = .call { callee := .value x, args := xs, argTypes := ts }) (hx : a.eval x = .func (.func f) #[] #[]) (hargs : xs.map a.eval = args)
    (h : Calls P f args W fun e w' => ∃ v, e = .returned v ∧ wpList P ops Q rest (a.put N v) w') : wpList P ops Q (oi :: rest) a W := by
  refine wpList_plain hg fun K hK => ?_
  have he := enters_ hf hname hb args W
  have hrun : (execOp a.eval oi).run P W = .ok (.enter f args) W := by
    unfold execOp
    simp [hop, resolve, Deferred.ofValue, invoke, hx, hargs, he]
  unfold Oper.wp
  rw [hrun, Oper.upon_enter]
  refine h.mono fun e w'' hh => ?_
  obtain ⟨v, rfl, hk⟩ := hh
  subst hd
  exact hK _ _ hk
end
end Go.Proofs.Ytcgocdhffcnleaa.XB
