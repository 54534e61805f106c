/- The reference's disk: Names. -/
import Derived.Test.YtggdbdjaobgeeaaGreatDoorRfOp2
namespace Go.Proofs.YtggdbdjaobgeeaaGreatDoor
open Go.RowKit Go.Tap Go.Maps
set_option linter.unusedVariables false
set_option linter.unusedSimpArgs false

theorem infoStrR : (Tryz.prog.info? 9).map (fun i => (i.zero, i.size, i.bytes)) = some (some (.string ⟨#[]⟩), 1, 16) := by kernel_rfl
/-- The names that the reference tells of. -/
def Ref.Rd.names (r : Ref.Rd) : List Dsk.Name := if r.dead = true then [] else r.now.map (·.1)
def strsR (l : List Dsk.Name) : List Value := l.map (fun s => Value.string (str s))
def SOwn (w : World) (lo : Nat) (v : Value) (l : List Dsk.Name) : Prop := w.ownsRow lo 9 1 v l.length (strsR l)
theorem SOwn.nil (w : World) (lo : Nat) : SOwn w lo (.slice none 0 0) [] := World.ownsRow_nil _ _ _ _
theorem names_take_succ {l : Dsk.Files} {i : Nat} {x : Dsk.Name × List UInt8} (h : l[i]? = some x) : (l.take (i + 1)).map (·.1) = (l.take i).map (·.1) ++ [x.1] := by
  rw [List.take_add_one, h, List.map_append]
  rfl
set_option maxHeartbeats 4000000 in
set_option maxRecDepth 100000 in
theorem rnames_any (w : World) (B : Nat) (r : Ref.Rd) (h : IsRd w B r) (hr : Rok r) :
    Calls Tryz.prog 96 #[.pointer (some ⟨B, 0, none⟩)] w fun e w' => ∃ v, e = .returned v ∧ SOwn w' w.heap.size v r.names ∧ Below w.heap.size w w' := by
  obtain ⟨i0, hi, hz0, hz1, hz2⟩ := info_parts infoStrR
  obtain ⟨n1, n2⟩ := hr.now
  have hnow := rnow_any w B r h hr.kp
  obtain ⟨kv, pv, hv⟩ := h
  have c4 : w.cell? ⟨B, 4, none⟩ = some (.bool r.dead) := blk_cell (i := 4) hv.blk rfl
  have hBlt := blk_lt hv.blk
  have HBK := Lib.hid hv.blk
  clear hv hr
  obtain ⟨nms, hnms⟩ : ∃ nms, nms = r.names := ⟨_, rfl⟩
  rw [← hnms]
  have HN := Lib.hid hnms
  obtain ⟨n, hnl⟩ : ∃ n, n = r.now.length := ⟨_, rfl⟩
  have HNL := Lib.hid hnl
  rw [← hnl] at n1
  clear hnms hnl
  obtain ⟨dd, hdd⟩ : ∃ dd, dd = r.dead := ⟨_, rfl⟩
  rw [← hdd] at c4
  have HDD := Lib.hid hdd
  clear hdd
  go_enter Tryz.func96, Tryz.ntmps96
  go_wp2_with fail
  refine hnow.mono ?_
  clear hnow c4
  rintro e w1 ⟨v, rfl, hf, hb1⟩
  obtain ⟨a0, c0, rfl, hlc, hz⟩ := hf.slice
  have H := Lib.hid hf
  rw [← HNL.out] at hlc ⊢
  clear hf hz
  go_wp2
  go_loopw [3, 5] (fun ov iv wr => ∃ i : Nat, i ≤ n ∧ iv = .int .i64 (i : Int) ∧ (dd = true → i = 0) ∧ Hid (SOwn wr w1.heap.size ov ((r.now.take i).map (·.1))) ∧ Hid (Below w.heap.size w wr) ∧ Below w1.heap.size w1 wr) (fun _ iv _ => n - (intOf iv).toNat)
  case atStart => exact ⟨0, Nat.zero_le _, rfl, fun _ => rfl, Lib.hid (SOwn.nil _ _), Lib.hid hb1, Below.refl _ _⟩
  case round =>
    obtain ⟨i, hin, rfl, hid, HF, HB, hb⟩ := hrel
    have c4 : wr.cell? ⟨B, 4, none⟩ = some (.bool dd) := by rw [HDD.out]; exact blk_cell (i := 4) ((HB.out.block B hBlt).trans HBK.out) rfl
    by_cases hlt : i < n
    · have d0 : decide ((i : Int) < (n : Int)) = true := decide_eq_true (by omega)
      have d0' : decide (i < n) = true := decide_eq_true hlt
      have d1 : (i : Int) < (n : Int) := by omega
      cases dd with
      | true =>
        obtain rfl : i = 0 := hid rfl
        have HE : Hid (nms = (r.now.take 0).map (·.1)) := Lib.hid (by rw [HN.out]; unfold Ref.Rd.names; rw [← HDD.out]; rfl)
        go_wp2
        go_ret
        rw [HE.out]
        exact ⟨_, rfl, ownsRow_base HF.out hb1.size, HB.out⟩
      | false =>
        have hx : r.now[i]? = some (r.now[i]'(by have := HNL.out; omega)) := List.getElem?_eq_getElem _
        generalize r.now[i]'(by have := HNL.out; omega) = x at hx
        obtain ⟨g, cap, a, c, hsl, hk, e0, e1⟩ := (H.out.below hb).elem hx
        simp only [Value.slice.injEq] at hsl
        obtain ⟨rfl, _, rfl⟩ := hsl
        have hw := wrapi' ((i : Int) + 1) (by omega)
        have hde := names_take_succ hx
        obtain ⟨ra, rc, rfl, _⟩ := ownsRow_slice HF.out
        have hml : ((r.now.take i).map (·.1)).length = i := by rw [List.length_map, List.length_take]; have := HNL.out; omega
        obtain ⟨rs, hrs⟩ : ∃ rs, rs = strsR ((r.now.take i).map (·.1)) := ⟨_, rfl⟩
        have hp3 : wr.ownsRow w1.heap.size 9 1 (.slice ra ((r.now.take i).map (·.1)).length rc) ((r.now.take i).map (·.1)).length rs := by rw [hrs]; exact HF.out
        rw [hml] at hp3
        rw [hml]
        have hblk : ∀ k, (Value.slice ra i rc).ownBlock = some k → w1.heap.size ≤ k := fun k e => (hp3.lt k e).1
        have HS := Lib.hid hrs
        have HP3 := Lib.hid hp3
        have HDE := Lib.hid hde
        have HML := Lib.hid hml
        have HBL := Lib.hid hblk
        clear hk hx hde HF hp3 hml hblk hrs
        go_wp2_with (at_builtin; refine wpList_append_one _ rfl (.tmp 21) (.tmp 27) 169 rfl w1.heap.size 9 i0 _ 1 16 Tryz.underlying169 hi hz0 hz1 hz2 rfl (by omega) _ i rs rfl (HP3.out.alloc _) wr.heap.size 1 #[.string (str x.1)] 9 rfl (heap_alloc_new wr _) rfl (by simp [Value.oneCell']) (by omega) (by omega) (by have := hb.size; simp; omega) ?_)
        intro v' w' hown hg
        have hb' : Below w1.heap.size w1 w' := (hb.alloc hb.size _).grown hg (by have := hb.size; simp; omega) (fun j hj => HBL.out j hj)
        have HB' := Lib.hid ((HB.out.alloc HB.out.size _).grown hg (by have := HB.out.size; simp; omega) (fun j hj => Nat.le_trans hb1.size (HBL.out j hj)))
        have hfo : SOwn w' w1.heap.size v' ((r.now.take (i + 1)).map (·.1)) := by
          rw [HDE.out]
          unfold SOwn
          rw [List.length_append, HML.out, show strsR ((r.now.take i).map (·.1) ++ [x.1]) = rs ++ [Value.string (str x.1)] from by rw [HS.out]; unfold strsR; rw [List.map_append]; rfl]
          exact hown
        have HFO := Lib.hid hfo
        clear hown hg hfo
        go_wp2
        go_roundw
        case rel => exact ⟨i + 1, by omega, by go_num, by simp, HFO, HB', hb'⟩
        case measure => simp [intOf]; omega
    · obtain rfl : i = n := by omega
      have d0 : decide ((i : Int) < (i : Int)) = false := decide_eq_false (by omega)
      have HE : Hid (nms = (r.now.take i).map (·.1)) := Lib.hid (by
        rw [HN.out]
        unfold Ref.Rd.names
        rw [← HDD.out]
        cases dd with
        | true => rw [hid rfl]; rfl
        | false => rw [List.take_of_length_le (by have := HNL.out; omega)]; rfl)
      go_wp2
      go_ret
      rw [HE.out]
      exact ⟨_, rfl, ownsRow_base HF.out hb1.size, HB.out⟩
end Go.Proofs.YtggdbdjaobgeeaaGreatDoor
