/- errors.As at a *api.Errno, of a *oops.Place round an api.Errno; taproothand.Kind, At of a *oops.Place. -/
import Derived.Test.YtcbddbclgepcmaaDoorAsPl
import Derived.Test.YtcbddbclgepcmaaDoorKind
namespace Go.Proofs.YtcbddbclgepcmaaDoor
open Go.RowKit Go.Tap Go.Extern.Stop Go.Stop Go.Extern
set_option linter.unusedVariables false

theorem notAssignable (w : World) : (ReflectliteType.relation "AssignableTo" ReflectliteType.assignableTo #[.agg #[.pointer (some ⟨2, 98, none⟩)], .iface 156 (.agg #[.pointer (some ⟨2, 30, none⟩)])]).run Tryd.prog w = .ok (.bool false) w := by kernel_rfl
theorem noAs (v : Value) (w : World) : (Instr.typeAssert (.iface 98 v) 24 161 true).run Tryd.prog w = .ok (.tuple #[.nilIface, .bool false]) w :=
  run_typeAssert_lacksB Tryd.underlying161 (by kernel_rfl) (by kernel_rfl) v 24 w
theorem hasUnwrap (v : Value) (w : World) : (Instr.typeAssert (.iface 98 v) 24 164 true).run Tryd.prog w = .ok (.tuple #[.iface 98 v, .bool true]) w :=
  run_typeAssert_hasB Tryd.underlying164 (by kernel_rfl) v 24 w
theorem methodUnwrap (h : Value) (w : World) : (Go.method 304 98 h "Unwrap").run Tryd.prog w = .ok (119, h) w := by kernel_rfl
theorem unwrap_any (w : World) (B : Nat) (v : Value) (h : w.cell? ⟨B, 1, none⟩ = some v) : Calls Tryd.prog 119 #[.pointer (some ⟨B, 0, none⟩)] w fun e w' => e = .returned v ∧ w' = w := by
  go_enter Tryd.func119, Tryd.ntmps119
  go_wp2
  go_ret
  exact ⟨rfl, rfl⟩
set_option maxHeartbeats 4000000 in
set_option maxRecDepth 100000 in
theorem as_errno_pl (k : Int) (pb : Nat) (t : Addr) (old : Value) (w : World) (hg : EType w) (hpe : w.cell? ⟨pb, 1, none⟩ = some (.iface 30 (.int .i64 k))) (ht0 : w.cell? t = some old) (hf0 : w.frozen? t = false) :
    Calls Tryd.prog 38 #[.iface 98 (.pointer (some ⟨pb, 0, none⟩)), .iface 80 (.pointer (some t))] w fun ev w' => ev = .returned (.bool true) ∧ w' = ((((w.alloc (.cells #[.pointer (some t)] 80)).alloc (.cells #[.pointer (some ⟨2, 80, none⟩), .pointer (some ⟨w.heap.size, 0, none⟩), .int .u64 150] 129)).alloc (.cells #[.pointer (some ⟨2, 80, none⟩), .pointer (some ⟨w.heap.size, 0, none⟩), .int .u64 150] 129)).alloc (.cells #[.int .i64 k] 30)).setCell t (.int .i64 k) := by
  have h6 := @run_callFunc_extern Tryd.prog 64 _ (fun args => ReflectliteValue.unpack (args.getD 0 (.tuple #[]))) Tryd.func64 (by kernel_rfl) (by kernel_rfl) (by kernel_rfl) (by kernel_rfl)
  have h7 := @run_callFunc_extern Tryd.prog 65 _ (ReflectliteValue.methodAny (ReflectliteValue.valueError "reflectlite.Value.Type" 0) (fun t _ _ _ => ReflectliteType.toType t)) Tryd.func65 (by kernel_rfl) (by kernel_rfl) (by kernel_rfl) (by kernel_rfl)
  have h8 := @run_callFunc_extern Tryd.prog 66 _ (ReflectliteValue.method (ReflectliteValue.valueError "reflectlite.Value.IsNil" 0) ReflectliteValue.isNil) Tryd.func66 (by kernel_rfl) (by kernel_rfl) (by kernel_rfl) (by kernel_rfl)
  have h27 := @run_callFunc_extern Tryd.prog 114 _ (ReflectliteType.abiMethod fun t => do pure (.int .u8 (← Rtype.kind t))) Tryd.func114 (by kernel_rfl) (by kernel_rfl) (by kernel_rfl) (by kernel_rfl)
  have h37 := @run_callFunc_extern Tryd.prog 127 _ (ReflectliteType.method ReflectliteType.elem) Tryd.func127 (by kernel_rfl) (by kernel_rfl) (by kernel_rfl) (by kernel_rfl)
  have h38 := @run_callFunc_extern Tryd.prog 128 _ (ReflectliteType.relation "Implements" ReflectliteType.implements_) Tryd.func128 (by kernel_rfl) (by kernel_rfl) (by kernel_rfl) (by kernel_rfl)
  have h10 := @run_callFunc_extern Tryd.prog 83 _ ReflectliteType.typeOf Tryd.func83 (by kernel_rfl) (by kernel_rfl) (by kernel_rfl) (by kernel_rfl)
  have h35 := @run_callFunc_extern Tryd.prog 125 _ (ReflectliteType.relation "AssignableTo" ReflectliteType.assignableTo) Tryd.func125 (by kernel_rfl) (by kernel_rfl) (by kernel_rfl) (by kernel_rfl)
  have h11 := @run_callFunc_extern Tryd.prog 84 _ (ReflectliteValue.method (ReflectliteValue.valueError "reflectlite.Value.Elem" 0) ReflectliteValue.elem) Tryd.func84 (by kernel_rfl) (by kernel_rfl) (by kernel_rfl) (by kernel_rfl)
  have h12 := @run_callFunc_extern Tryd.prog 85 _ ReflectliteValue.set Tryd.func85 (by kernel_rfl) (by kernel_rfl) (by kernel_rfl) (by kernel_rfl)
  have tO := typeOfE
  have mA := methodAssignableTo
  have a25 := assignableE
  have v25 := valueOfE
  have f6 := valueOfP
  have f7 := typeP
  have mK := methodKind
  have mE := methodElem
  have mI := methodImplements
  have k27 := kindP
  have k25 := kindE
  have e27 := elemP
  have i25 := implementsE
  have n8 := isNilP ⟨w.heap.size, 0, none⟩ t ((w.alloc (.cells #[.pointer (some t)] 80)).alloc (.cells #[.pointer (some ⟨2, 80, none⟩), .pointer (some ⟨w.heap.size, 0, none⟩), .int .u64 150] 129)) (by simp)
  have hlt : 0 < w.heap.size := by
    rcases Nat.eq_zero_or_pos w.heap.size with h0 | h
    · unfold EType at hg; simp [World.cell?, h0] at hg
    · exact h
  have hg2 : ((w.alloc (.cells #[.pointer (some t)] 80)).alloc (.cells #[.pointer (some ⟨2, 80, none⟩), .pointer (some ⟨w.heap.size, 0, none⟩), .int .u64 150] 129)).cell? ⟨0, 0, none⟩ = some (.iface 156 (.agg #[.pointer (some ⟨2, 24, none⟩)])) := by
    rw [World.cell?_alloc_lt _ _ ⟨0, 0, none⟩ (by simp), World.cell?_alloc_lt _ _ ⟨0, 0, none⟩ hlt]; exact hg
  have htl : t.block < w.heap.size := by
    rcases Nat.lt_or_ge t.block w.heap.size with h | h
    · exact h
    · simp [World.cell?, Array.getElem?_eq_none h] at ht0
  have el := elemVP ⟨w.heap.size, 0, none⟩ t (((w.alloc (.cells #[.pointer (some t)] 80)).alloc (.cells #[.pointer (some ⟨2, 80, none⟩), .pointer (some ⟨w.heap.size, 0, none⟩), .int .u64 150] 129)).alloc (.cells #[.pointer (some ⟨2, 80, none⟩), .pointer (some ⟨w.heap.size, 0, none⟩), .int .u64 150] 129)) (by rw [World.cell?_alloc_lt _ _ ⟨w.heap.size, 0, none⟩ (by simp; omega)]; simp)
  have st := setE t ⟨w.heap.size + 1 + 1 + 1, 0, none⟩ k old ((((w.alloc (.cells #[.pointer (some t)] 80)).alloc (.cells #[.pointer (some ⟨2, 80, none⟩), .pointer (some ⟨w.heap.size, 0, none⟩), .int .u64 150] 129)).alloc (.cells #[.pointer (some ⟨2, 80, none⟩), .pointer (some ⟨w.heap.size, 0, none⟩), .int .u64 150] 129)).alloc (.cells #[.int .i64 k] 30))
    (by rw [World.cell?_alloc_at _ _ _ _ (by simp)]; rfl)
    (by rw [World.cell?_alloc_lt _ _ t (by simp; omega), World.cell?_alloc_lt _ _ t (by simp; omega), World.cell?_alloc_lt _ _ t (by simp; omega), World.cell?_alloc_lt _ _ t htl]; exact ht0)
    (by rw [World.frozen?_alloc_old _ _ t (by simp; omega), World.frozen?_alloc_old _ _ t (by simp; omega), World.frozen?_alloc_old _ _ t (by simp; omega), World.frozen?_alloc_old _ _ t (Nat.ne_of_lt htl)]; exact hf0)
  have tP := typeOfPl
  have aP := notAssignable
  have nA := noAs
  have hU := hasUnwrap
  have mU := methodUnwrap
  go_enter Tryd.func38, Tryd.ntmps38
  go_wp2
  refine wp_loop_rounds 2 ?_
  rw [rounds_succ]
  go_wp2_with fail
  have hpl : pb < w.heap.size := block_lt_of_cell hpe
  refine (unwrap_any _ pb (.iface 30 (.int .i64 k)) (by rw [World.cell?_alloc_lt _ _ ⟨pb, 1, none⟩ (by simp; omega), World.cell?_alloc_lt _ _ ⟨pb, 1, none⟩ (by simp; omega), World.cell?_alloc_lt _ _ ⟨pb, 1, none⟩ hpl]; exact hpe)).mono ?_
  rintro ev w' ⟨rfl, rfl⟩
  go_wp2_with fail
  rw [rounds_succ]
  go_wp2
  go_ret
  exact ⟨rfl, rfl⟩
/-- What a *Place holds. -/
def IsPl (w : World) (pb : Nat) (p k : Int) : Prop := w.cell? ⟨pb, 0, none⟩ = some (.int .i64 p) ∧ w.cell? ⟨pb, 1, none⟩ = some (.iface 30 (.int .i64 k))
theorem IsPl.keep {w w' : World} {pb : Nat} {p k : Int} (h : IsPl w pb p k) (hb : Below w.heap.size w w') : IsPl w' pb p k :=
  ⟨(hb.cell (p := ⟨pb, 0, none⟩) (block_lt_of_cell h.1)).trans h.1, (hb.cell (p := ⟨pb, 1, none⟩) (block_lt_of_cell h.2)).trans h.2⟩
set_option maxHeartbeats 1000000 in
theorem kind_place (w : World) (pb : Nat) (p k : Int) (h : IsPl w pb p k) (hg : EType w) : Calls Tryd.prog 11 #[.iface 98 (.pointer (some ⟨pb, 0, none⟩))] w fun e w' => e = .returned (.int .i64 k) ∧ Below w.heap.size w w' := by
  have hb0 : Below w.heap.size w (w.alloc (.cells #[.int .i64 0] 30)) := (Below.refl _ _).alloc (Nat.le_refl _) _
  have hg1 : EType (w.alloc (.cells #[.int .i64 0] 30)) := hg.keep hb0
  have h1 := (h.keep hb0).2
  have ht : (w.alloc (.cells #[.int .i64 0] 30)).cell? ⟨w.heap.size, 0, none⟩ = some (.int .i64 0) := by simp
  have hf : (w.alloc (.cells #[.int .i64 0] 30)).frozen? ⟨w.heap.size, 0, none⟩ = false := by simp
  go_enter Tryd.func11, Tryd.ntmps11
  go_wp2_with (go_at_call 38; refine (as_errno_pl k pb ⟨w.heap.size, 0, none⟩ (.int .i64 0) _ hg1 h1 ht hf).mono ?_; rintro e w' ⟨rfl, rfl⟩)
  go_ret
  refine ⟨rfl, ?_⟩
  exact (((((Below.refl _ _).alloc (Nat.le_refl _) _).alloc (by simp) _).alloc (by simp; omega) _).alloc (by simp; omega) _).alloc (by simp; omega) _
theorem as_place' (e : Addr) (B : Nat) (old : Value) (w : World) (hg : EType w) (ht0 : w.cell? ⟨B, 0, none⟩ = some old) (hf0 : w.frozen? ⟨B, 0, none⟩ = false) :
    Calls Tryd.prog 38 #[.iface 98 (.pointer (some e)), .iface 99 (.pointer (some ⟨B, 0, none⟩))] w fun ev w' => ev = .returned (.bool true) ∧ w'.cell? ⟨B, 0, none⟩ = some (.pointer (some e)) ∧ TStay (fun k => k = B) w w' := by
  refine (as_place e ⟨B, 0, none⟩ old w hg ht0 hf0).mono fun ev w' ⟨h1, h2⟩ => ?_
  have hlt : B < w.heap.size := block_lt_of_cell ht0
  have ht := (((((TStay.refl (fun k => k = B) w).alloc _ (.cells #[.pointer (some ⟨B, 0, none⟩)] 99)).alloc _ (.cells #[.pointer (some ⟨2, 99, none⟩), .pointer (some ⟨w.heap.size, 0, none⟩), .int .u64 150] 129)).alloc _ (.cells #[.pointer (some ⟨2, 99, none⟩), .pointer (some ⟨w.heap.size, 0, none⟩), .int .u64 150] 129)).alloc _ (.cells #[.pointer (some e)] 98)).setCell (p := ⟨B, 0, none⟩) (.inl rfl) (.pointer (some e))
  rw [← h2] at ht
  refine ⟨h1, ?_, ht⟩
  have hc : ((((w.alloc (.cells #[.pointer (some ⟨B, 0, none⟩)] 99)).alloc (.cells #[.pointer (some ⟨2, 99, none⟩), .pointer (some ⟨w.heap.size, 0, none⟩), .int .u64 150] 129)).alloc (.cells #[.pointer (some ⟨2, 99, none⟩), .pointer (some ⟨w.heap.size, 0, none⟩), .int .u64 150] 129)).alloc (.cells #[.pointer (some e)] 98)).cell? ⟨B, 0, none⟩ = some old := by
    rw [World.cell?_alloc_lt _ _ ⟨B, 0, none⟩ (by simp; omega), World.cell?_alloc_lt _ _ ⟨B, 0, none⟩ (by simp; omega), World.cell?_alloc_lt _ _ ⟨B, 0, none⟩ (by simp; omega), World.cell?_alloc_lt _ _ ⟨B, 0, none⟩ hlt]; exact ht0
  rw [h2]
  exact World.cell?_setCell_same _ _ _ hc
set_option maxHeartbeats 1000000 in
theorem at_place (w : World) (pb : Nat) (p k : Int) (h : IsPl w pb p k) (hg : EType w) : Calls Tryd.prog 21 #[.iface 98 (.pointer (some ⟨pb, 0, none⟩))] w fun e w' => e = .returned (.int .i64 p) ∧ Below w.heap.size w w' := by
  have hb0 : Below w.heap.size w (w.alloc (.cells #[.pointer none] 98)) := (Below.refl _ _).alloc (Nat.le_refl _) _
  have hg1 : EType (w.alloc (.cells #[.pointer none] 98)) := hg.keep hb0
  have hlt : pb < w.heap.size := block_lt_of_cell h.1
  have ht : (w.alloc (.cells #[.pointer none] 98)).cell? ⟨w.heap.size, 0, none⟩ = some (.pointer none) := by simp
  have hf : (w.alloc (.cells #[.pointer none] 98)).frozen? ⟨w.heap.size, 0, none⟩ = false := by simp
  have hc := h.1
  go_enter Tryd.func21, Tryd.ntmps21
  go_wp2_with fail
  refine (as_place' ⟨pb, 0, none⟩ w.heap.size (.pointer none) _ hg1 ht hf).mono ?_
  rintro e w' ⟨rfl, hc1, hst⟩
  have hc2 : w'.cell? ⟨pb, 0, none⟩ = some (.int .i64 p) := (World.cell?_of_block (w := w.alloc (.cells #[.pointer none] 98)) (hst.block pb (by simp; omega) (by omega))).trans ((h.keep hb0).1)
  have hbb : Below w.heap.size w w' := Below.trans_stay hb0 hst (by simp) (by rintro k hk rfl; omega)
  clear hc hg1 ht hf h hst
  go_wp2
  go_ret
  exact ⟨rfl, hbb⟩
end Go.Proofs.YtcbddbclgepcmaaDoor
