/- errors.As at a *api.Errno, of a *oops.Step round an api.Errno; oops.Wrap; taproothand.Kind of it. -/
import Derived.Test.YtdlpehlgmfhheaaDoorAs
namespace Go.Proofs.YtdlpehlgmfhheaaDoor
open Go.RowKit Go.Tap Go.Extern.Stop Go.Stop Go.Extern
set_option linter.unusedVariables false

theorem typeOfSt (v : Value) (w : World) : (ReflectliteType.typeOf #[.iface 236 v]).run Tryd.prog w = .ok (.iface 257 (.agg #[.pointer (some ⟨1, 236, none⟩)])) w := by kernel_rfl
theorem notAssignableS (w : World) : (ReflectliteType.relation "AssignableTo" ReflectliteType.assignableTo #[.agg #[.pointer (some ⟨1, 236, none⟩)], .iface 257 (.agg #[.pointer (some ⟨1, 61, none⟩)])]).run Tryd.prog w = .ok (.bool false) w := by kernel_rfl
theorem noAsS (v : Value) (w : World) : (Instr.typeAssert (.iface 236 v) 45 262 true).run Tryd.prog w = .ok (.tuple #[.nilIface, .bool false]) w :=
  run_typeAssert_lacksB Tryd.underlying262 (by kernel_rfl) (by kernel_rfl) v 45 w
theorem hasUnwrapS (v : Value) (w : World) : (Instr.typeAssert (.iface 236 v) 45 265 true).run Tryd.prog w = .ok (.tuple #[.iface 236 v, .bool true]) w :=
  run_typeAssert_hasB Tryd.underlying265 (by kernel_rfl) v 45 w
theorem methodUnwrapS (h : Value) (w : World) : (Go.method 411 236 h "Unwrap").run Tryd.prog w = .ok (190, h) w := by kernel_rfl
theorem unwrapS_any (w : World) (B : Nat) (v : Value) (h : w.cell? ⟨B, 1, none⟩ = some v) : Calls Tryd.prog 190 #[.pointer (some ⟨B, 0, none⟩)] w fun e w' => e = .returned v ∧ w' = w := by
  go_enter Tryd.func190, Tryd.ntmps190
  go_wp2
  go_ret
  exact ⟨rfl, rfl⟩
set_option maxHeartbeats 4000000 in
set_option maxRecDepth 100000 in
theorem as_errno_st (k : Int) (pb : Nat) (t : Addr) (old : Value) (w : World) (hg : EType w) (hpe : w.cell? ⟨pb, 1, none⟩ = some (.iface 61 (.int .i64 k))) (ht0 : w.cell? t = some old) (hf0 : w.frozen? t = false) :
    Calls Tryd.prog 77 #[.iface 236 (.pointer (some ⟨pb, 0, none⟩)), .iface 154 (.pointer (some t))] w fun ev w' => ev = .returned (.bool true) ∧ w' = ((((w.alloc (.cells #[.pointer (some t)] 154)).alloc (.cells #[.pointer (some ⟨1, 154, none⟩), .pointer (some ⟨w.heap.size, 0, none⟩), .int .u64 150] 222)).alloc (.cells #[.pointer (some ⟨1, 154, none⟩), .pointer (some ⟨w.heap.size, 0, none⟩), .int .u64 150] 222)).alloc (.cells #[.int .i64 k] 61)).setCell t (.int .i64 k) := by
  have h6 := @run_callFunc_extern Tryd.prog 119 _ (fun args => ReflectliteValue.unpack (args.getD 0 (.tuple #[]))) Tryd.func119 (by kernel_rfl) (by kernel_rfl) (by kernel_rfl) (by kernel_rfl)
  have h7 := @run_callFunc_extern Tryd.prog 120 _ (ReflectliteValue.methodAny (ReflectliteValue.valueError "reflectlite.Value.Type" 0) (fun t _ _ _ => ReflectliteType.toType t)) Tryd.func120 (by kernel_rfl) (by kernel_rfl) (by kernel_rfl) (by kernel_rfl)
  have h8 := @run_callFunc_extern Tryd.prog 121 _ (ReflectliteValue.method (ReflectliteValue.valueError "reflectlite.Value.IsNil" 0) ReflectliteValue.isNil) Tryd.func121 (by kernel_rfl) (by kernel_rfl) (by kernel_rfl) (by kernel_rfl)
  have h27 := @run_callFunc_extern Tryd.prog 181 _ (ReflectliteType.abiMethod fun t => do pure (.int .u8 (← Rtype.kind t))) Tryd.func181 (by kernel_rfl) (by kernel_rfl) (by kernel_rfl) (by kernel_rfl)
  have h37 := @run_callFunc_extern Tryd.prog 194 _ (ReflectliteType.method ReflectliteType.elem) Tryd.func194 (by kernel_rfl) (by kernel_rfl) (by kernel_rfl) (by kernel_rfl)
  have h38 := @run_callFunc_extern Tryd.prog 195 _ (ReflectliteType.relation "Implements" ReflectliteType.implements_) Tryd.func195 (by kernel_rfl) (by kernel_rfl) (by kernel_rfl) (by kernel_rfl)
  have h10 := @run_callFunc_extern Tryd.prog 152 _ ReflectliteType.typeOf Tryd.func152 (by kernel_rfl) (by kernel_rfl) (by kernel_rfl) (by kernel_rfl)
  have h35 := @run_callFunc_extern Tryd.prog 192 _ (ReflectliteType.relation "AssignableTo" ReflectliteType.assignableTo) Tryd.func192 (by kernel_rfl) (by kernel_rfl) (by kernel_rfl) (by kernel_rfl)
  have h11 := @run_callFunc_extern Tryd.prog 153 _ (ReflectliteValue.method (ReflectliteValue.valueError "reflectlite.Value.Elem" 0) ReflectliteValue.elem) Tryd.func153 (by kernel_rfl) (by kernel_rfl) (by kernel_rfl) (by kernel_rfl)
  have h12 := @run_callFunc_extern Tryd.prog 154 _ ReflectliteValue.set Tryd.func154 (by kernel_rfl) (by kernel_rfl) (by kernel_rfl) (by kernel_rfl)
  have tO := typeOfE
  have mA := methodAssignableTo
  have a25 := assignableE
  have v25 := valueOfE
  have f6 := valueOfP
  have f7 := typeP
  have mK := methodKind
  have mE := methodElem
  have mI := methodImplements
  have k27 := kindP
  have k25 := kindE
  have e27 := elemP
  have i25 := implementsE
  have n8 := isNilP ⟨w.heap.size, 0, none⟩ t ((w.alloc (.cells #[.pointer (some t)] 154)).alloc (.cells #[.pointer (some ⟨1, 154, none⟩), .pointer (some ⟨w.heap.size, 0, none⟩), .int .u64 150] 222)) (by simp)
  have hlt : 0 < w.heap.size := by
    rcases Nat.eq_zero_or_pos w.heap.size with h0 | h
    · unfold EType at hg; simp [World.cell?, h0] at hg
    · exact h
  have hg2 : ((w.alloc (.cells #[.pointer (some t)] 154)).alloc (.cells #[.pointer (some ⟨1, 154, none⟩), .pointer (some ⟨w.heap.size, 0, none⟩), .int .u64 150] 222)).cell? ⟨0, 0, none⟩ = some (.iface 257 (.agg #[.pointer (some ⟨1, 45, none⟩)])) := by
    rw [World.cell?_alloc_lt _ _ ⟨0, 0, none⟩ (by simp), World.cell?_alloc_lt _ _ ⟨0, 0, none⟩ hlt]; exact hg
  have htl : t.block < w.heap.size := by
    rcases Nat.lt_or_ge t.block w.heap.size with h | h
    · exact h
    · simp [World.cell?, Array.getElem?_eq_none h] at ht0
  have el := elemVP ⟨w.heap.size, 0, none⟩ t (((w.alloc (.cells #[.pointer (some t)] 154)).alloc (.cells #[.pointer (some ⟨1, 154, none⟩), .pointer (some ⟨w.heap.size, 0, none⟩), .int .u64 150] 222)).alloc (.cells #[.pointer (some ⟨1, 154, none⟩), .pointer (some ⟨w.heap.size, 0, none⟩), .int .u64 150] 222)) (by rw [World.cell?_alloc_lt _ _ ⟨w.heap.size, 0, none⟩ (by simp; omega)]; simp)
  have st := setE t ⟨w.heap.size + 1 + 1 + 1, 0, none⟩ k old ((((w.alloc (.cells #[.pointer (some t)] 154)).alloc (.cells #[.pointer (some ⟨1, 154, none⟩), .pointer (some ⟨w.heap.size, 0, none⟩), .int .u64 150] 222)).alloc (.cells #[.pointer (some ⟨1, 154, none⟩), .pointer (some ⟨w.heap.size, 0, none⟩), .int .u64 150] 222)).alloc (.cells #[.int .i64 k] 61))
    (by rw [World.cell?_alloc_at _ _ _ _ (by simp)]; rfl)
    (by rw [World.cell?_alloc_lt _ _ t (by simp; omega), World.cell?_alloc_lt _ _ t (by simp; omega), World.cell?_alloc_lt _ _ t (by simp; omega), World.cell?_alloc_lt _ _ t htl]; exact ht0)
    (by rw [World.frozen?_alloc_old _ _ t (by simp; omega), World.frozen?_alloc_old _ _ t (by simp; omega), World.frozen?_alloc_old _ _ t (by simp; omega), World.frozen?_alloc_old _ _ t (Nat.ne_of_lt htl)]; exact hf0)
  have tP := typeOfSt
  have aP := notAssignableS
  have nA := noAsS
  have hU := hasUnwrapS
  have mU := methodUnwrapS
  go_enter Tryd.func77, Tryd.ntmps77
  go_wp2
  refine wp_loop_rounds 2 ?_
  rw [rounds_succ]
  go_wp2_with fail
  have hpl : pb < w.heap.size := block_lt_of_cell hpe
  refine (unwrapS_any _ pb (.iface 61 (.int .i64 k)) (by rw [World.cell?_alloc_lt _ _ ⟨pb, 1, none⟩ (by simp; omega), World.cell?_alloc_lt _ _ ⟨pb, 1, none⟩ (by simp; omega), World.cell?_alloc_lt _ _ ⟨pb, 1, none⟩ hpl]; exact hpe)).mono ?_
  rintro ev w' ⟨rfl, rfl⟩
  go_wp2_with fail
  rw [rounds_succ]
  go_wp2
  go_ret
  exact ⟨rfl, rfl⟩
/-- What a *Step holds. -/
def IsSt (w : World) (pb : Nat) (k : Int) : Prop := w.cell? ⟨pb, 1, none⟩ = some (.iface 61 (.int .i64 k))
theorem IsSt.keep {w w' : World} {pb : Nat} {k : Int} (h : IsSt w pb k) (hb : Below w.heap.size w w') : IsSt w' pb k := (hb.cell (p := ⟨pb, 1, none⟩) (block_lt_of_cell h)).trans h
set_option maxHeartbeats 1000000 in
theorem kind_step (w : World) (pb : Nat) (k : Int) (h : IsSt w pb k) (hg : EType w) : Calls Tryd.prog 25 #[.iface 236 (.pointer (some ⟨pb, 0, none⟩))] w fun e w' => e = .returned (.int .i64 k) ∧ Below w.heap.size w w' := by
  have hb0 : Below w.heap.size w (w.alloc (.cells #[.int .i64 0] 61)) := (Below.refl _ _).alloc (Nat.le_refl _) _
  have hg1 : EType (w.alloc (.cells #[.int .i64 0] 61)) := hg.keep hb0
  have h1 := h.keep hb0
  have ht : (w.alloc (.cells #[.int .i64 0] 61)).cell? ⟨w.heap.size, 0, none⟩ = some (.int .i64 0) := by simp
  have hf : (w.alloc (.cells #[.int .i64 0] 61)).frozen? ⟨w.heap.size, 0, none⟩ = false := by simp
  go_enter Tryd.func25, Tryd.ntmps25
  go_wp2_with (go_at_call 77; refine (as_errno_st k pb ⟨w.heap.size, 0, none⟩ (.int .i64 0) _ hg1 h1 ht hf).mono ?_; rintro e w' ⟨rfl, rfl⟩)
  go_ret
  refine ⟨rfl, ?_⟩
  exact (((((Below.refl _ _).alloc (Nat.le_refl _) _).alloc (by simp) _).alloc (by simp; omega) _).alloc (by simp; omega) _).alloc (by simp; omega) _
set_option maxHeartbeats 1000000 in
theorem wrap_any (w : World) (s : ByteArray) (k : Int) : Calls Tryd.prog 95 #[.string s, .iface 61 (.int .i64 k)] w fun e w' => ∃ pb, e = .returned (.iface 236 (.pointer (some ⟨pb, 0, none⟩))) ∧ IsSt w' pb k ∧ Below w.heap.size w w' := by
  go_enter Tryd.func95, Tryd.ntmps95
  go_wp2
  go_ret
  refine ⟨_, rfl, ?_, (Below.refl _ _).alloc (Nat.le_refl _) _⟩
  unfold IsSt
  simp
end Go.Proofs.YtdlpehlgmfhheaaDoor
