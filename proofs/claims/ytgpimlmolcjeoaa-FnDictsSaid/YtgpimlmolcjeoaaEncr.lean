/-
  Contracts of EncRuns, in the program and in the reference.
-/
import Derived.Test.YtgpimlmolcjeoaaEncs
namespace Go.Proofs.Ytgpimlmolcjeoaa
open Go.RowKit
set_option linter.unusedVariables false
set_option maxRecDepth 100000

def putRun (b : List UInt8) (r : V × Int) : List UInt8 := putVal (putNum b r.2) r.1
def encRTo (rs : List (V × Int)) (k : Nat) : List UInt8 := (rs.take k).foldl putRun (putNum [] (rs.length : Int))
def encRuns (vs : List V) : List UInt8 := if typeOf vs = 0 then [] else (runsOf vs).foldl putRun (putNum [] ((runsOf vs).length : Int))
theorem encRTo_zero (rs : List (V × Int)) : encRTo rs 0 = putNum [] (rs.length : Int) := rfl
theorem encRTo_snoc {rs : List (V × Int)} {k : Nat} {x : V} {q : Int} (h : rs[k]? = some (x, q)) : encRTo rs (k + 1) = putVal (putNum (encRTo rs k) q) x := by
  unfold encRTo
  rw [List.take_add_one, h]
  simp [List.foldl_append, putRun]
theorem foldRun_len (l : List (V × Int)) (b : List UInt8) : (l.foldl putRun b).length ≤ b.length + 12 * l.length := by
  induction l generalizing b with
  | nil => simp
  | cons x l ih =>
    have h1 := ih (putRun b x)
    have h2 := putVal_len (putNum b x.2) x.1
    have h3 := putNum_len b x.2
    have h4 : (putRun b x).length ≤ b.length + 12 := by unfold putRun; omega
    simp only [List.foldl_cons, List.length_cons]
    omega
theorem encRTo_len (rs : List (V × Int)) (k : Nat) (hk : k ≤ 64) : (encRTo rs k).length ≤ 800 := by
  have h1 := foldRun_len (rs.take k) (putNum [] (rs.length : Int))
  have h2 := putNum_len [] (rs.length : Int)
  have h3 : (rs.take k).length ≤ k := by simp; omega
  unfold encRTo
  simp at h2
  omega
theorem encRuns_none {vs : List V} (h : typeOf vs = 0) : encRuns vs = [] := by simp [encRuns, h]
theorem encRuns_some {vs : List V} (h : ¬ typeOf vs = 0) : encRuns vs = encRTo (runsOf vs) (runsOf vs).length := by
  unfold encRuns encRTo
  rw [if_neg h, List.take_of_length_le (Nat.le_refl _)]
theorem encRuns_len (vs : List V) : (encRuns vs).length ≤ 800 := by
  by_cases h : typeOf vs = 0
  · rw [encRuns_none h]; simp
  · rw [encRuns_some h]; exact encRTo_len _ _ (Nat.le_trans (runsOf_len _) (typeOf_le h))
theorem runsOf_ok {vs : List V} (h : ∀ x ∈ vs, x.ok) : ∀ r ∈ runsOf vs, r.1.ok := by
  have key : ∀ (l : List V) (a : List (V × Int)), (∀ x ∈ l, x.ok) → (∀ r ∈ a, r.1.ok) → ∀ r ∈ l.foldl runStep a, r.1.ok := by
    intro l
    induction l with
    | nil => intro a _ ha; simpa using ha
    | cons x l ih =>
      intro a hl ha
      simp only [List.foldl_cons]
      refine ih _ (fun y hy => hl y (by simp [hy])) ?_
      intro r hr
      unfold runStep at hr
      split at hr
      · rename_i u q hlast
        split at hr
        · rcases List.mem_append.1 hr with h1 | h1
          · exact ha r (List.dropLast_subset _ h1)
          · simp at h1; subst h1
            exact ha (u, q) (List.mem_of_getLast? hlast)
        · rcases List.mem_append.1 hr with h1 | h1
          · exact ha r h1
          · simp at h1; subst h1; exact hl x (by simp)
      · simp at hr; subst hr; exact hl x (by simp)
  exact key vs [] h (by simp)

set_option maxHeartbeats 1600000 in
theorem impl_EncRuns (w : World) (A : Option Addr) (c : Nat) (vs : List V) (hr : Reads w w.heap.size 3 A vs.length (valCells vs)) (hl : vs.length ≤ 1099511627776) (hi : ∀ x ∈ vs, x.ok) :
    Calls Try.prog 22 #[.slice A vs.length c] w fun e w' => ∃ A' c', e = .returned (.slice A' (encRuns vs).length c') ∧ w'.ownsRow w.heap.size 5 1 (.slice A' (encRuns vs).length c') (encRuns vs).length (byteCells (encRuns vs)) ∧ Below w.heap.size w w' := by
  go_enter Try.func22, Try.ntmps22
  go_wp2_with fail
  refine (impl_TypeOf _ _ _ _ ((hr.alloc (Nat.le_refl _) _).more (by simp)) hl hi).mono ?_
  rintro e w1 ⟨rfl, hb1⟩
  have hbl1 := (Below.alloc0 (Below.refl w.heap.size w) _).trans (hb1.mono (by simp))
  have hown1 : w1.ownsRow w.heap.size 5 1 (.slice (some ⟨w.heap.size, 0, none⟩) 0 0) 0 [] := own_step (own_empty (Nat.le_refl _)) hb1
  clear hb1
  by_cases ht : typeOf vs = 0
  · have htb : (typeOf vs == 0) = true := by simp [ht]
    have ho := Lib.hid (encRuns_none ht)
    clear ht
    go_wp2_with fail
    go_ret
    rw [ho.out]
    exact ⟨_, _, rfl, hown1, hbl1⟩
  have htb : (typeOf vs == 0) = false := by simp [ht]
  have ho := Lib.hid (encRuns_some ht)
  have h64 := Nat.le_trans (runsOf_len vs) (typeOf_le ht)
  have hro := runsOf_ok hi
  clear ht
  go_wp2_with fail
  refine (impl_Runs _ _ _ _ ((hr.below hbl1 (Nat.le_refl _)).more hbl1.size) hl hi).mono ?_
  rintro e w2 ⟨A2, c2, rfl, hown2, hb2⟩
  have hbl2 := hbl1.trans (hb2.mono hbl1.size)
  have hrr := own_reads hown2
  replace hown1 := own_step hown1 hb2
  obtain ⟨rs, hrs⟩ : ∃ rs, rs = runsOf vs := ⟨_, rfl⟩
  rw [← hrs] at ho h64 hrr hro ⊢
  clear hown2 hb2 hbl1 hr hi hrs htb
  go_wp2_with fail
  have hownE : w2.ownsRow w.heap.size 5 1 (.slice (some ⟨w.heap.size, 0, none⟩) ([] : List UInt8).length 0) ([] : List UInt8).length (byteCells []) := hown1
  refine (impl_PutNum _ _ _ [] (own_reads hownE) (own_nil hownE) (by simp) _).mono ?_
  rintro e w3 ⟨A3, c3, rfl, hown3, hb3⟩
  have hz3 := hb3.size
  have hbl3 := hbl2.trans (hb3.mono hbl2.size)
  replace hrr := hrr.below hb3 (Nat.le_refl _)
  replace hown3 := own_lower hown3 (Nat.le_refl _)
  clear hown1 hownE hb3
  go_wp2_with fail
  go_loopw [3, 20] (fun o i wr => ∃ (k : Nat) (A' : Option Addr) (c' : Nat), k ≤ rs.length ∧ i = .int .i64 k ∧ o = .slice A' (encRTo rs k).length c' ∧ wr.ownsRow w2.heap.size 5 1 (.slice A' (encRTo rs k).length c') (encRTo rs k).length (byteCells (encRTo rs k)) ∧ Below w2.heap.size w3 wr) (fun _ i _ => rs.length - (intOf i).toNat)
  case atStart => exact ⟨0, _, _, Nat.zero_le _, rfl, rfl, hown3, Below.refl _ _⟩
  case round =>
    clear hown3
    obtain ⟨k, A', c', hk, rfl, rfl, hown, hbl⟩ := hrel
    have hsz := hbl.size
    by_cases hlt : k < rs.length
    · obtain ⟨p, off, x, q, rfl, hb, hx, hc0, hc1, hc2, hc3⟩ := hrr.run hlt
      have hxo := hro (x, q) (List.mem_of_getElem? hx.out)
      have hd0 : wr.cell? ⟨p, off + k * 4, none⟩ = some (.int .i64 x.ty) := (hbl.cell (p := ⟨p, off + k * 4, none⟩) hb).trans hc0
      have hd1 : wr.cell? ⟨p, off + k * 4 + 1, none⟩ = some (.int .i64 x.n) := (hbl.cell (p := ⟨p, off + k * 4 + 1, none⟩) hb).trans hc1
      have hd2 : wr.cell? ⟨p, off + k * 4 + 2, none⟩ = some (.string x.s) := (hbl.cell (p := ⟨p, off + k * 4 + 2, none⟩) hb).trans hc2
      have hd3 : wr.cell? ⟨p, off + k * 4 + 3, none⟩ = some (.int .i64 q) := (hbl.cell (p := ⟨p, off + k * 4 + 3, none⟩) hb).trans hc3
      have hs := Lib.hid (encRTo_snoc hx.out)
      have hln := encRTo_len rs k (by omega)
      have hln2 := putNum_len (encRTo rs k) q
      clear hrr hc0 hc1 hc2 hc3 hro
      obtain ⟨W, hW⟩ : ∃ W, W = wr.alloc (.cells #[.int .i64 x.ty, .int .i64 x.n, .string x.s, .int .i64 q] 44) := ⟨_, rfl⟩
      have f0 : W.cell? ⟨wr.heap.size, 0, none⟩ = some (.int .i64 x.ty) := by rw [hW]; simp [go_sem]
      have f1 : W.cell? ⟨wr.heap.size, 1, none⟩ = some (.int .i64 x.n) := by rw [hW]; simp [go_sem]
      have f2 : W.cell? ⟨wr.heap.size, 2, none⟩ = some (.string x.s) := by rw [hW]; simp [go_sem]
      have f3 : W.cell? ⟨wr.heap.size, 3, none⟩ = some (.int .i64 q) := by rw [hW]; simp [go_sem]
      have hblW : Below w2.heap.size w3 W := by rw [hW]; exact hbl.alloc (Nat.le_trans hz3 hbl.size) _
      have hownW0 : W.ownsRow w2.heap.size 5 1 (.slice A' (encRTo rs k).length c') (encRTo rs k).length (byteCells (encRTo rs k)) := by rw [hW]; exact hown.alloc _
      have hownW : W.drew.ownsRow w2.heap.size 5 1 (.slice A' (encRTo rs k).length c') (encRTo rs k).length (byteCells (encRTo rs k)) := hownW0
      clear hownW0
      have HW := Lib.hid hW
      clear hW
      go_wp2_with fail
      rw [← HW.out]
      clear HW hd0 hd1 hd2 hd3 hown hbl
      go_region_held3 (fun w' => w'.cell? ⟨wr.heap.size, 0, none⟩ = some (.int .i64 x.ty) ∧ w'.cell? ⟨wr.heap.size, 1, none⟩ = some (.int .i64 x.n) ∧ w'.cell? ⟨wr.heap.size, 2, none⟩ = some (.string x.s) ∧ w'.cell? ⟨wr.heap.size, 3, none⟩ = some (.int .i64 q) ∧ Below W.heap.size W w')
        (first
          | (exact ⟨f0, f1, f2, f3, (Below.refl _ _).drew⟩)
          | (go_split_ands
             exact ⟨cell_keep hb5 (by assumption), cell_keep hb5 (by assumption), cell_keep hb5 (by assumption), cell_keep hb5 (by assumption), Below.trans (by assumption) (hb5.mono (Below.size (by assumption)))⟩)
          | (go_split_ands
             exact ⟨cell_keep hb4 (by assumption), cell_keep hb4 (by assumption), cell_keep hb4 (by assumption), cell_keep hb4 (by assumption), Below.trans (by assumption) (hb4.mono (Below.size (by assumption)))⟩))
        (first
          | (go_at_call 48; refine (impl_PutNum _ _ _ _ (own_reads hownW) (own_nil hownW) (by omega) _).mono ?_; rintro e w4 ⟨A4, c4, rfl, hown4, hb4⟩)
          | (go_at_call 37; refine (impl_PutVal _ _ _ _ (own_reads hown4) (own_nil hown4) (by omega) x hxo).mono ?_; rintro e w5 ⟨A5, c5, rfl, hown5, hb5⟩))
      have hbX : Below W.heap.size W w5 := (show _ ∧ _ ∧ _ ∧ _ ∧ Below W.heap.size W w5 by assumption).2.2.2.2
      have hsb : w2.heap.size ≤ W.heap.size := Nat.le_trans hz3 hblW.size
      replace hown5 := own_lower (base' := w2.heap.size) hown5 (Nat.le_trans hsb (Nat.le_trans (by simp) hb4.size))
      have hbl5 := hblW.trans (hbX.mono hsb)
      rw [← hs.out] at hown5 ⊢
      clear hs hln hln2 hownW hbX hb4 hb5 hown4 f0 f1 f2 f3 hblW
      go_wp2_with fail
      go_roundw
      case rel => exact ⟨k + 1, A5, c5, by omega, by go_num, rfl, hown5, hbl5⟩
      case measure => simp [intOf]; omega
    · have hkn : k = rs.length := by omega
      subst hkn
      go_wp2_with fail
      go_ret
      rw [ho.out]
      exact ⟨_, _, rfl, own_lower hown hbl2.size, hbl3.trans (hbl.mono hbl2.size)⟩

set_option maxHeartbeats 1600000 in
theorem spec_EncRuns (w : World) (A : Option Addr) (c : Nat) (vs : List V) (hr : Reads w w.heap.size 3 A vs.length (valCells vs)) (hl : vs.length ≤ 1099511627776) (hi : ∀ x ∈ vs, x.ok) :
    Calls Try.prog 23 #[.slice A vs.length c] w fun e w' => ∃ A' c', e = .returned (.slice A' (encRuns vs).length c') ∧ w'.ownsRow w.heap.size 5 1 (.slice A' (encRuns vs).length c') (encRuns vs).length (byteCells (encRuns vs)) ∧ Below w.heap.size w w' := by
  go_enter Try.func23, Try.ntmps23
  go_wp2_with fail
  refine (spec_TypeOf _ _ _ _ hr hl hi).mono ?_
  rintro e w1 ⟨rfl, hbl1⟩
  by_cases ht : typeOf vs = 0
  · have htb : (typeOf vs == 0) = true := by simp [ht]
    have ho := Lib.hid (encRuns_none ht)
    clear ht
    go_wp2_with fail
    go_ret
    rw [ho.out]
    exact ⟨_, _, rfl, own_empty hbl1.size, hbl1.alloc hbl1.size _⟩
  have htb : (typeOf vs == 0) = false := by simp [ht]
  have ho := Lib.hid (encRuns_some ht)
  have h64 := Nat.le_trans (runsOf_len vs) (typeOf_le ht)
  have hro := runsOf_ok hi
  clear ht
  go_wp2_with fail
  refine (spec_Runs _ _ _ _ ((hr.below hbl1 (Nat.le_refl _)).more hbl1.size) hl hi).mono ?_
  rintro e w2 ⟨A2, c2, rfl, hown2, hb2⟩
  have hbl2 := hbl1.trans (hb2.mono hbl1.size)
  have hrr := own_reads hown2
  obtain ⟨rs, hrs⟩ : ∃ rs, rs = runsOf vs := ⟨_, rfl⟩
  rw [← hrs] at ho h64 hrr hro ⊢
  clear hown2 hb2 hbl1 hr hi hrs htb
  go_wp2_with fail
  have hE : (w2.alloc (.cells #[] 5)).ownsRow w2.heap.size 5 1 (.slice (some ⟨w2.heap.size, 0, none⟩) 0 0) 0 (byteCells []) := own_empty (Nat.le_refl _)
  refine (spec_PutNum _ _ _ [] (own_reads hE) (own_nil hE) (by simp) _).mono ?_
  rintro e w3 ⟨A3, c3, rfl, hown3, hb3⟩
  have hb3' := (Below.alloc0 (Below.refl w2.heap.size w2) (.cells #[] 5)).trans (hb3.mono (by simp))
  have hz3 := hb3'.size
  have hbl3 := hbl2.trans (hb3'.mono hbl2.size)
  replace hrr := hrr.below hb3' (Nat.le_refl _)
  replace hown3 := own_lower (base' := w2.heap.size) hown3 (by simp)
  clear hE hb3 hb3'
  go_wp2_with fail
  go_loopw [4, 5] (fun o i wr => ∃ (k : Nat) (A' : Option Addr) (c' : Nat), k ≤ rs.length ∧ i = .int .i64 k ∧ o = .slice A' (encRTo rs k).length c' ∧ wr.ownsRow w2.heap.size 5 1 (.slice A' (encRTo rs k).length c') (encRTo rs k).length (byteCells (encRTo rs k)) ∧ Below w2.heap.size w3 wr) (fun _ i _ => rs.length - (intOf i).toNat)
  case atStart => exact ⟨0, _, _, Nat.zero_le _, rfl, rfl, hown3, Below.refl _ _⟩
  case round =>
    clear hown3
    obtain ⟨k, A', c', hk, rfl, rfl, hown, hbl⟩ := hrel
    have hsz := hbl.size
    by_cases hlt : k < rs.length
    · obtain ⟨p, off, x, q, rfl, hb, hx, hc0, hc1, hc2, hc3⟩ := hrr.run hlt
      have hxo := hro (x, q) (List.mem_of_getElem? hx.out)
      have hd0 : wr.cell? ⟨p, off + k * 4, none⟩ = some (.int .i64 x.ty) := (hbl.cell (p := ⟨p, off + k * 4, none⟩) hb).trans hc0
      have hd1 : wr.cell? ⟨p, off + k * 4 + 1, none⟩ = some (.int .i64 x.n) := (hbl.cell (p := ⟨p, off + k * 4 + 1, none⟩) hb).trans hc1
      have hd2 : wr.cell? ⟨p, off + k * 4 + 2, none⟩ = some (.string x.s) := (hbl.cell (p := ⟨p, off + k * 4 + 2, none⟩) hb).trans hc2
      have hd3 : wr.cell? ⟨p, off + k * 4 + 3, none⟩ = some (.int .i64 q) := (hbl.cell (p := ⟨p, off + k * 4 + 3, none⟩) hb).trans hc3
      have hs := Lib.hid (encRTo_snoc hx.out)
      have hln := encRTo_len rs k (by omega)
      have hln2 := putNum_len (encRTo rs k) q
      clear hrr hc0 hc1 hc2 hc3 hro
      have hownW : wr.drew.ownsRow w2.heap.size 5 1 (.slice A' (encRTo rs k).length c') (encRTo rs k).length (byteCells (encRTo rs k)) := hown
      go_wp2_with fail
      go_region_held3 (fun w' => w'.cell? ⟨p, off + k * 4, none⟩ = some (.int .i64 x.ty) ∧ w'.cell? ⟨p, off + k * 4 + 1, none⟩ = some (.int .i64 x.n) ∧ w'.cell? ⟨p, off + k * 4 + 2, none⟩ = some (.string x.s) ∧ w'.cell? ⟨p, off + k * 4 + 3, none⟩ = some (.int .i64 q) ∧ Below wr.heap.size wr w')
        (first
          | (exact ⟨hd0, hd1, hd2, hd3, (Below.refl _ _).drew⟩)
          | (go_split_ands
             exact ⟨cell_keep hb5 (by assumption), cell_keep hb5 (by assumption), cell_keep hb5 (by assumption), cell_keep hb5 (by assumption), Below.trans (by assumption) (hb5.mono (Below.size (by assumption)))⟩)
          | (go_split_ands
             exact ⟨cell_keep hb4 (by assumption), cell_keep hb4 (by assumption), cell_keep hb4 (by assumption), cell_keep hb4 (by assumption), Below.trans (by assumption) (hb4.mono (Below.size (by assumption)))⟩))
        (first
          | (go_at_call 54; refine (spec_PutNum _ _ _ _ (own_reads hownW) (own_nil hownW) (by omega) _).mono ?_; rintro e w4 ⟨A4, c4, rfl, hown4, hb4⟩)
          | (go_at_call 55; refine (spec_PutVal _ _ _ _ (own_reads hown4) (own_nil hown4) (by omega) x hxo).mono ?_; rintro e w5 ⟨A5, c5, rfl, hown5, hb5⟩))
      have hbX : Below wr.heap.size wr w5 := (show _ ∧ _ ∧ _ ∧ _ ∧ Below wr.heap.size wr w5 by assumption).2.2.2.2
      have hsb : w2.heap.size ≤ wr.heap.size := Nat.le_trans hz3 hbl.size
      replace hown5 := own_lower (base' := w2.heap.size) hown5 (Nat.le_trans hsb (Nat.le_trans (by simp) hb4.size))
      have hbl5 := hbl.trans (hbX.mono hsb)
      rw [← hs.out] at hown5 ⊢
      clear hs hln hln2 hownW hbX hb4 hb5 hown4 hd0 hd1 hd2 hd3 hown hbl
      go_wp2_with fail
      go_roundw
      case rel => exact ⟨k + 1, A5, c5, by omega, by go_num, rfl, hown5, hbl5⟩
      case measure => simp [intOf]; omega
    · have hkn : k = rs.length := by omega
      subst hkn
      go_wp2_with fail
      go_ret
      rw [ho.out]
      exact ⟨_, _, rfl, own_lower hown hbl2.size, hbl3.trans (hbl.mono hbl2.size)⟩

end Go.Proofs.Ytgpimlmolcjeoaa
