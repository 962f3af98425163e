/-
  slices.SortFunc at values by compareVals; slices.Compact at values.
-/
import Derived.Test.YtgpimlmolcjeoaaDictp
import Derived.Test.YtgpimlmolcjeoaaSort
import Derived.Shelf.SlSortCmp.NoneTotal
import Derived.Lib.SortBridge
namespace Go.Proofs.Ytgpimlmolcjeoaa
open Go.RowKit
set_option linter.unusedVariables false
set_option maxRecDepth 100000

def cmpV (a b : V) : Int := if lessV a b = true then -1 else if lessV b a = true then 1 else 0
theorem ltOf_cmp (a b : V) : ltOf cmpV a b = lessV a b := by
  unfold ltOf cmpV
  cases h1 : lessV a b
  · cases h2 : lessV b a <;> simp
  · simp
theorem swo_cmp : Go.Sort.SWO (ltOf cmpV) where
  irrefl x := by rw [ltOf_cmp, lessV_irrefl]
  trans x y z h1 h2 := by rw [ltOf_cmp] at *; exact lessV_trans h1 h2
  ntrans x y z h1 h2 := by
    rw [ltOf_cmp] at *
    cases h : lessV x z
    · rfl
    · cases h3 : lessV y x
      · rw [lessV_total h1 h3] at h
        rw [h] at h2
        cases h2
      · have := lessV_trans h3 h
        rw [this] at h2
        cases h2
instance : Inhabited V := ⟨⟨0, 0, ⟨#[]⟩⟩⟩
theorem lessVal_x (w : World) (a b : V) :
    Calls Try.prog 17 #[.agg #[.int .i64 a.ty, .int .i64 a.n, .string a.s], .agg #[.int .i64 b.ty, .int .i64 b.n, .string b.s]] w fun e w' => e = .returned (.bool (lessV a b)) ∧ ∃ os, w' = Go.Sort.grow w os := by
  obtain ⟨ty, n, s⟩ := a
  obtain ⟨ty', n', s'⟩ := b
  by_cases h1 : ty = ty' <;> by_cases h2 : n = n'
  all_goals
    go_enter Try.func17, Try.ntmps17
    go_wp2
    go_ret
    exact ⟨ret_bool (by simp [lessV, h1, h2]), _, by rw [Go.Sort.alloc_eq_grow, Go.Sort.alloc_eq_grow, Go.Sort.grow_grow]⟩
theorem grow_cell {w : World} {os : Array Obj} {a : Addr} {v : Value} (h : w.cell? a = some v) : (Go.Sort.grow w os).cell? a = some v := by
  have hlt := World.block_lt_of_cell? _ _ h
  have e : (Go.Sort.grow w os).heap[a.block]? = w.heap[a.block]? := by
    show (w.heap ++ os)[a.block]? = _
    rw [Array.getElem?_append_left hlt]
  exact (World.cell?_of_block e).trans h
set_option maxHeartbeats 800000 in
theorem compare_x (w : World) (a b : V) :
    Calls Try.prog 46 #[.agg #[.int .i64 a.ty, .int .i64 a.n, .string a.s], .agg #[.int .i64 b.ty, .int .i64 b.n, .string b.s]] w fun e w' => e = .returned (.int .i64 (cmpV a b)) ∧ ∃ q os, w' = Go.Sort.grow (w.drewN q) os := by
  obtain ⟨W, hW⟩ : ∃ W, W = (w.alloc (.cells #[.int .i64 a.ty, .int .i64 a.n, .string a.s] 37)).alloc (.cells #[.int .i64 b.ty, .int .i64 b.n, .string b.s] 37) := ⟨_, rfl⟩
  have hgW : ∃ os, W = Go.Sort.grow w os := ⟨_, by rw [hW, Go.Sort.alloc_eq_grow, Go.Sort.alloc_eq_grow, Go.Sort.grow_grow]⟩
  have a0 : W.cell? ⟨w.heap.size, 0, none⟩ = some (.int .i64 a.ty) := by rw [hW]; simp [go_sem]
  have a1 : W.cell? ⟨w.heap.size, 1, none⟩ = some (.int .i64 a.n) := by rw [hW]; simp [go_sem]
  have a2 : W.cell? ⟨w.heap.size, 2, none⟩ = some (.string a.s) := by rw [hW]; simp [go_sem]
  have b0 : W.cell? ⟨w.heap.size + 1, 0, none⟩ = some (.int .i64 b.ty) := by rw [hW]; simp [go_sem]
  have b1 : W.cell? ⟨w.heap.size + 1, 1, none⟩ = some (.int .i64 b.n) := by rw [hW]; simp [go_sem]
  have b2 : W.cell? ⟨w.heap.size + 1, 2, none⟩ = some (.string b.s) := by rw [hW]; simp [go_sem]
  go_enter Try.func46, Try.ntmps46
  go_wp2_with fail
  rw [← hW]
  clear hW
  refine (lessVal_x W a b).mono ?_
  rintro e w1 ⟨rfl, os1, rfl⟩
  obtain ⟨os0, rfl⟩ := hgW
  cases h1 : lessV a b
  · replace a0 := grow_cell (os := os1) a0
    replace a1 := grow_cell (os := os1) a1
    replace a2 := grow_cell (os := os1) a2
    replace b0 := grow_cell (os := os1) b0
    replace b1 := grow_cell (os := os1) b1
    replace b2 := grow_cell (os := os1) b2
    go_wp2_with fail
    refine (lessVal_x _ b a).mono ?_
    rintro e w2 ⟨rfl, os2, rfl⟩
    have hc : Hid (cmpV a b = if lessV b a = true then 1 else 0) := by show _ = _; simp [cmpV, h1]
    cases h2 : lessV b a
    all_goals
      go_wp2
      go_ret
      exact ⟨ret_int (by rw [hc.out, h2]; rfl), 0, _, by rw [Go.Sort.grow_grow, Go.Sort.grow_grow]; rfl⟩
  · have hc : Hid (cmpV a b = -1) := by show _ = _; simp [cmpV, h1]
    go_wp2
    go_ret
    exact ⟨ret_int (by rw [hc.out]), 0, _, by rw [Go.Sort.grow_grow]; rfl⟩
theorem own_setCells {base g cap n size : Nat} {e : TypeId} : ∀ (vs : List Value) (k : Nat) (w : World) (xs : List Value), w.ownsRow base e size (.slice (some ⟨g, 0, none⟩) n cap) n xs → k + vs.length ≤ xs.length →
    (w.setCells g k vs).ownsRow base e size (.slice (some ⟨g, 0, none⟩) n cap) n (xs.take k ++ vs ++ xs.drop (k + vs.length))
  | [], k, w, xs, h, _ => by
    simp only [List.append_nil, List.length_nil, Nat.add_zero, List.take_append_drop]
    exact h
  | u :: vs, k, w, xs, h, hk => by
    rw [List.length_cons] at hk
    have h1 := (h.stored k u).1
    have h2 := own_setCells vs (k + 1) _ _ h1 (by rw [List.length_set]; omega)
    have e : (xs.set k u).take (k + 1) ++ vs ++ (xs.set k u).drop (k + 1 + vs.length) = xs.take k ++ u :: vs ++ xs.drop (k + (u :: vs).length) := by
      rw [List.drop_set_of_lt (by omega), List.take_set, List.length_cons, show k + (vs.length + 1) = k + 1 + vs.length by omega]
      rw [show (xs.take (k + 1)).set k u = xs.take k ++ [u] by
        rw [List.take_add_one, List.getElem?_eq_getElem (show k < xs.length by omega)]
        rw [Option.toList_some, List.set_append_right _ _ (by simp; omega)]
        rw [show k - (xs.take k).length = 0 by simp; omega]
        rfl]
      simp
    rw [e] at h2
    exact h2
theorem below_setCells {B g : Nat} (hB : B ≤ g) : ∀ (vs : List Value) (k : Nat) (w : World), Below B w (w.setCells g k vs)
  | [], k, w => Below.refl _ _
  | u :: vs, k, w => ((Below.refl B w).setCell hB _).trans (below_setCells hB vs (k + 1) _)
theorem grow_below (w : World) (os : Array Obj) : Below w.heap.size w (Go.Sort.grow w os) := by
  refine ⟨rfl, rfl, rfl, by simp [Go.Sort.grow], fun k hk => ?_⟩
  show (w.heap ++ os)[k]? = _
  rw [Array.getElem?_append_left hk]
theorem vc_len : ∀ l : List V, (valCells l).length = l.length * 3
  | [] => rfl
  | x :: l => by
    have h := vc_len l
    have e : valCells (x :: l) = V.enc x ++ valCells l := rfl
    rw [e, List.length_append, h, List.length_cons]
    show 3 + l.length * 3 = _
    omega
theorem flat_arr (l : List V) : Go.Sort.flatK V.enc 3 l.toArray = (valCells l).toArray := by
  apply Array.toList_inj.1
  apply List.ext_getElem?
  intro j
  by_cases hj : j < l.length * 3
  · have hq : j / 3 < l.length := by omega
    have hf := flatMap_get_u V.enc 3 (fun _ => rfl) l (j / 3) (j % 3) (by omega)
    rw [show j / 3 * 3 + j % 3 = j by omega, List.getElem?_eq_getElem hq] at hf
    have e2 : (valCells l).toArray.toList[j]? = (valCells l)[j]? := rfl
    rw [e2, show (valCells l)[j]? = _ from hf]
    unfold Go.Sort.flatK
    simp [hj, hq]
    have h3 : j % 3 < (l[j / 3].enc).length := by show j % 3 < 3; omega
    rw [List.getElem?_eq_getElem h3]
    rfl
  · rw [List.getElem?_eq_none, List.getElem?_eq_none]
    · show (valCells l).length ≤ j
      rw [vc_len]
      omega
    · unfold Go.Sort.flatK
      simp
      omega
theorem sort_V (w : World) (base g cap : Nat) (l : List V) (hown : w.ownsRow base 37 3 (.slice (some ⟨g, 0, none⟩) l.length cap) l.length (valCells l)) (hl : l.length ≤ 1099511627776) :
    Calls Try.prog 45 #[.slice (some ⟨g, 0, none⟩) l.length cap, .func (.func 46) #[] #[]] w fun e w' => e = .returned (.tuple #[]) ∧ ∃ s : List V, s.Perm l ∧ (∀ (i j : Nat) (x y : V), i < j → s[i]? = some x → s[j]? = some y → lessV y x = false) ∧
      w'.ownsRow base 37 3 (.slice (some ⟨g, 0, none⟩) l.length cap) l.length (valCells s) ∧ Below base w w' := by
  have hlt := hown.lt g rfl
  have eg : ∀ args w, (callFunc 46 args).run Try.prog w = .ok (.enter 46 args) w := enters_of Try.func46 (by kernel_rfl) rfl
  have hlen : (valCells l).length = l.length * 3 := hown.1
  have hH : Go.Sort.HoldsK V.enc 3 w g 0 l.toArray := by
    unfold Go.Sort.HoldsK
    rw [flat_arr]
    intro j hj
    have hj' : j < l.length * 3 := by rw [← hlen]; simpa using hj
    refine ⟨?_, by rw [Nat.zero_add]; exact hown.frozenAt j⟩
    rw [Nat.zero_add, hown.cellAt j hj']
    have hj2 : j < (valCells l).length := by omega
    rw [List.getElem?_eq_getElem hj2]
    simp [hj2]
  have hcon := AnyQ.slices_SortFunc Try.sortV 3 Try.isAgg37 Try.sizeOf37 V.enc (fun _ => rfl) (fun x v hv => by simp [V.enc] at hv; rcases hv with rfl | rfl | rfl <;> rfl) cmpV swo_cmp 46 #[] g 0 cap l.toArray w eg (fun _ _ _ _ x y => compare_x _ x y) hH hlt.2 (by simp; omega)
  refine Calls.mono hcon ?_
  rintro e w' ⟨rfl, d', n, os, ⟨hp1, _, hp3⟩, hs, rfl⟩
  have hd : d'.size = l.length := by simpa using hp1
  refine ⟨rfl, d'.toList, ?_, ?_, ?_, ?_⟩
  · have h1 : d'.extract 0 l.toArray.size = d' := by rw [← hp1]; exact Array.extract_size
    have h2 : l.toArray.extract 0 l.toArray.size = l.toArray := Array.extract_size
    rw [h1, h2] at hp3
    simpa using hp3
  · intro i j x y hij hx hy
    have hj : j < d'.size := by
      have := (List.getElem?_eq_some_iff.1 hy).1
      simpa using this
    have h := hs i j (Nat.zero_le _) hij (by simp; omega)
    rw [ltOf_cmp] at h
    have ex : d'[i]! = x := by
      rw [getElem!_pos d' i (by omega)]
      obtain ⟨h1, h2⟩ := List.getElem?_eq_some_iff.1 hx
      rw [← h2]
      simp
    have ey : d'[j]! = y := by
      rw [getElem!_pos d' j hj]
      obtain ⟨h1, h2⟩ := List.getElem?_eq_some_iff.1 hy
      rw [← h2]
      simp
    rw [ex, ey] at h
    exact h
  all_goals
    have hc : (valCells d'.toList).length = l.length * 3 := by
      rw [vc_len]
      simp [hd]
    have e : sortWorldK V.enc 3 w g 0 n d' os = Go.Sort.grow ((w.drewN n).setCells g 0 (valCells d'.toList)) os := by
      have h := Go.Lib.sorted_world (id : Value → Value) w g 0 n (Go.Sort.flatK V.enc 3 l.toArray) (valCells d'.toList) os hH (by rw [flat_arr]; simp [hc, hlen])
      rw [List.map_id] at h
      rw [← h]
      unfold sortWorldK Go.Sort.putRowK
      rw [← flat_arr, Array.toArray_toList]
    rw [e]
    have hD : (w.drewN n).ownsRow base 37 3 (.slice (some ⟨g, 0, none⟩) l.length cap) l.length (valCells l) := hown
  · have h2 := own_setCells (valCells d'.toList) 0 _ _ hD (by omega)
    rw [List.take_zero, List.nil_append, Nat.zero_add, List.drop_of_length_le (by omega), List.append_nil] at h2
    exact own_step h2 (grow_below _ _)
  · have h2 := (below_drewN (Below.refl base w) n).trans (below_setCells hlt.1 (valCells d'.toList) 0 (w.drewN n))
    exact h2.trans ((grow_below _ _).mono (Nat.le_trans (Nat.le_of_lt (Nat.lt_of_le_of_lt hlt.1 hlt.2)) h2.size))

end Go.Proofs.Ytgpimlmolcjeoaa
