/- Names, Used, Dead, Fuse of a disk: what they answer. -/
import Derived.Test.YtggdbdjaobgeeaaGreatDoorIter
import Derived.Test.YtggdbdjaobgeeaaGreatDoorDskOp3
namespace Go.Proofs.YtggdbdjaobgeeaaGreatDoor
open Go.RowKit Go.Tap Go.Maps Go.Sort Go.Shelf
set_option linter.unusedVariables false

def encL (ss : List (List UInt8)) : List Value := (ss.mergeSort (fun x y => decide (x ≤ y))).map encStr
theorem encL_length (ss : List (List UInt8)) : (encL ss).length = ss.length := by unfold encL; rw [List.length_map, List.length_mergeSort]
theorem str_strKeys (l : List Fl) : strKeys (.map (l.map Fl.ent)) = (l.map Fl.file).map (·.1) := by
  simp only [strKeys, List.map_map]
  rfl
set_option maxHeartbeats 2000000 in
set_option maxRecDepth 100000 in
theorem names_any (w : World) (lo B : Nat) (d : Dsk.Dk) (h : IsDk w lo B d) (hd : d.dead = false) :
    Calls Tryz.prog 95 #[.pointer (some ⟨B, 0, none⟩)] w fun e w' => ∃ (v : Value) (ss : List (List UInt8)), e = .returned v ∧ ss.Perm (d.now.map (·.1)) ∧ w'.ownsRow w.heap.size 9 1 v ss.length (encL ss) ∧ Below w.heap.size w w' := by
  obtain ⟨bd, bn, pv, h1, hok⟩ := h
  have c2 : w.cell? ⟨B, 2, none⟩ = some (.map (some bn)) := blk_cell (i := 2) h1.blk rfl
  have c5 : w.cell? ⟨B, 5, none⟩ = some (.bool d.dead) := blk_cell (i := 5) h1.blk rfl
  rw [hd] at c5
  obtain ⟨l, e1, _, _, es, hown, hp⟩ := h1.now
  have hl : es.length = d.now.length := by rw [hp.length_eq, List.length_map, ← e1, List.length_map]
  have hsz : es.length ≤ 100000 := by have := hok.len; have := hok.works; omega
  have hperm : (strKeys (.map es)).Perm (d.now.map (·.1)) := by
    rw [← e1, ← str_strKeys]
    exact hp.map _
  have hS := Tryz.slices_Sorted_keys_139_140 bn l.length (.map es) held w hown (by rw [size_eq]; unfold maxLen; omega) (by rw [size_eq]; omega)
  have HP := Lib.hid hperm
  clear h1 hok hd e1 hown hp hl hsz hperm
  refine (callsIn_wide (n := 6)).1 ?_
  have hfK : Fence.wide.fn 140 := trivial
  have hfS : Fence.wide.fn 139 := trivial
  refine callsIn_of_wp Tryz.func95 rfl trivial ?_ rfl
  simp only [Tryz.ntmps95, List.size_toArray, List.length_cons, List.length_nil, Nat.reduceAdd, Nat.reduceSub, Array.replicate_succ, Array.replicate_zero, List.push_toArray, List.append_toArray, List.nil_append, List.cons_append]
  gi_wp2_with (first
    | (gi_at_call 140; refine (Tryz.maps_Keys_140 _ _).mono ?_; rintro e w' ⟨rfl, rfl⟩)
    | (gi_at_call 139; refine hS.mono ?_; rintro e w' ⟨v, ss, rfl, hS, hrow, hnil, hb⟩))
  go_ret
  exact ⟨v, ss, rfl, hS.trans HP.out, ownsRow_base_a hrow (by simp), ((Below.refl _ w).alloc (Nat.le_refl _) _).trans (hb.mono (by simp))⟩
set_option maxHeartbeats 1000000 in
set_option maxRecDepth 100000 in
theorem usedm_any (w : World) (lo B : Nat) (d : Dsk.Dk) (h : IsDk w lo B d) :
    Calls Tryz.prog 39 #[.pointer (some ⟨B, 0, none⟩)] w fun e w' => e = .returned (.int .i64 ((if d.dead = true then 0 else Dsk.used d.now : Nat) : Int)) ∧ Below w.heap.size w w' := by
  obtain ⟨bd, bn, pv, h1, hok⟩ := h
  have c2 : w.cell? ⟨B, 2, none⟩ = some (.map (some bn)) := blk_cell (i := 2) h1.blk rfl
  have c5 : w.cell? ⟨B, 5, none⟩ = some (.bool d.dead) := blk_cell (i := 5) h1.blk rfl
  have hu := used_any w bn d.now h1.now (by have := hok.room; have := hok.small'; omega)
  clear h1 hok
  cases hd : d.dead with
  | true =>
    rw [hd] at c5
    clear hd hu
    go_enter Tryz.func39, Tryz.ntmps39
    go_wp2
    go_ret
    exact ⟨rfl, Below.refl _ _⟩
  | false =>
    rw [hd] at c5
    clear hd
    go_enter Tryz.func39, Tryz.ntmps39
    go_wp2_with fail
    refine hu.mono ?_
    rintro e w1 ⟨rfl, hb⟩
    go_wp2
    go_ret
    exact ⟨rfl, hb⟩
end Go.Proofs.YtggdbdjaobgeeaaGreatDoor
