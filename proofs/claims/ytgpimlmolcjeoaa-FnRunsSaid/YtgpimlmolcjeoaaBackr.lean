/-
  Plain laws: runs come back of their bytes; what a decoded row of runs tells; runs and their values.
-/
import Derived.Test.YtgpimlmolcjeoaaBackp
import Derived.Test.YtgpimlmolcjeoaaDecr
import Derived.Test.YtgpimlmolcjeoaaSdraw
import Derived.Test.YtgpimlmolcjeoaaTurns
namespace Go.Proofs.Ytgpimlmolcjeoaa
open Go.RowKit
set_option linter.unusedVariables false

theorem spread_all {P : V → Prop} {rs : List (V × Int)} (h : ∀ r ∈ rs, P r.1) : ∀ x ∈ spreadOf rs, P x := by
  have key : ∀ (l : List (V × Int)) (a : Option (List V)), (∀ r ∈ l, P r.1) → (∀ x ∈ a.getD [], P x) → ∀ x ∈ (l.foldl spreadStep a).getD [], P x := by
    intro l
    induction l with
    | nil => intro a _ ha; simpa using ha
    | cons r l ih =>
      intro a hl ha
      rw [List.foldl_cons]
      refine ih _ (fun y hy => hl y (by simp [hy])) ?_
      intro x hx
      cases a with
      | none => simp [spreadStep] at hx
      | some out =>
        simp only [spreadStep, Option.bind_some] at hx
        split at hx
        · simp only [Option.getD_some] at hx
          rcases List.mem_append.1 hx with h1 | h1
          · exact ha x (by simpa using h1)
          · rw [List.eq_of_mem_replicate h1]
            exact hl r (by simp)
        · simp at hx
  exact key rs (some []) h (by simp)
def rGood (ty : Int) (r : V × Int) : Prop := r.1.ok ∧ I64 r.2 ∧ r.1.ty = ty
theorem drAcc_all {bs : List UInt8} {ty : Int} : ∀ {f : Nat} {R R' : List (V × Int)} {q : Nat}, drAcc bs ty f R q = some R' → (∀ r ∈ R, rGood ty r) → ∀ r ∈ R', rGood ty r
  | 0, R, R', q, h, hR => by simp only [drAcc, Option.some.injEq] at h; subst h; exact hR
  | f + 1, R, R', q, h, hR => by
    simp only [drAcc] at h
    cases hg : getNum bs (q : Int) with
    | none => rw [hg] at h; cases h
    | some a =>
      obtain ⟨m, q1⟩ := a
      rw [hg] at h
      dsimp only at h
      cases hv : getVal bs (q1 : Int) ty with
      | none => rw [hv] at h; cases h
      | some a =>
        obtain ⟨x, q2⟩ := a
        rw [hv] at h
        dsimp only at h
        have h1 := getNum_put hg
        have h2 := getVal_put hv
        refine drAcc_all h fun r hr => ?_
        rcases List.mem_append.1 hr with hr | hr
        · exact hR r hr
        · rw [List.mem_singleton.1 hr]
          exact ⟨valOk_ok h2.2.2.1, inB_I64 h1.2.2.1, h2.2.2.2.1⟩
theorem dr_facts {bs : List UInt8} {ty k : Int} : (∀ x ∈ drL bs ty k, x.ok) ∧ (drL bs ty k).length ≤ 64 ∧ (drOk bs ty k = true → encRuns (drL bs ty k) = bs ∧ ((drL bs ty k).length : Int) = k ∧ typeOf (drL bs ty k) = ty) := by
  have no : decRuns bs ty k = none → (∀ x ∈ drL bs ty k, x.ok) ∧ (drL bs ty k).length ≤ 64 ∧ (drOk bs ty k = true → encRuns (drL bs ty k) = bs ∧ ((drL bs ty k).length : Int) = k ∧ typeOf (drL bs ty k) = ty) := by
    intro h
    obtain ⟨h1, h2⟩ := dr_none h
    rw [h1, h2]
    exact ⟨by simp, by simp, fun h => by cases h⟩
  cases hg : getNum bs 0 with
  | none => exact no (dr_nonum hg)
  | some a =>
    obtain ⟨n, p⟩ := a
    cases hn : inB n 1 64
    · exact no (dr_widen hg hn)
    · obtain ⟨N, rfl, hn1, hn2⟩ := inB_nat hn
      cases hk : inB k 1 64
      · exact no (dr_widek hg hk)
      · cases hd : drAcc bs ty N [] p with
        | none => exact no (dr_acc hg hn hd)
        | some R =>
          by_cases hc : ((spreadOf R).length : Int) = k ∧ bs = encRuns (spreadOf R)
          · obtain ⟨h1, h2⟩ := dr_some (dr_yes hg hn hk hd hc.1 hc.2)
            have hall := drAcc_all hd (by simp)
            have hok := spread_all (P := fun x => x.ok ∧ x.ty = ty) (fun r hr => ⟨(hall r hr).1, (hall r hr).2.2⟩)
            rw [h1]
            refine ⟨fun x hx => (hok x hx).1, spreadOf_len R, fun _ => ⟨hc.2.symm, hc.1, ?_⟩⟩
            by_cases ht : typeOf (spreadOf R) = 0
            · rw [encRuns_none ht] at hc
              rw [hc.2] at hg
              simp [getNum, getGo] at hg
            · obtain ⟨t1, _, t3⟩ := typeOf_facts ht
              obtain ⟨x, hx⟩ : ∃ x, x ∈ spreadOf R := by
                cases he : spreadOf R with
                | nil => rw [he] at t1; simp at t1
                | cons x xs => exact ⟨x, by simp⟩
              rw [← (t3 x hx).2]
              exact (hok x hx).2
          · exact no (dr_no hg hd hc)
/-- all values, each as often as its run says -/
def flat (rs : List (V × Int)) : List V := rs.flatMap fun r => List.replicate r.2.toNat r.1
theorem flat_app (a b : List (V × Int)) : flat (a ++ b) = flat a ++ flat b := by simp [flat]
theorem flat_step {a : List (V × Int)} {x : V} (h : ∀ r ∈ a, 1 ≤ r.2) : flat (runStep a x) = flat a ++ [x] := by
  rcases List.eq_nil_or_concat a with rfl | ⟨a', ⟨y, q⟩, rfl⟩
  · simp [runStep, flat]
  · rw [List.concat_eq_append] at h ⊢
    by_cases e : y = x
    · subst e
      have hq := h (y, q) (by simp)
      dsimp only at hq
      rw [runStep_same, flat_app, flat_app]
      simp only [flat, List.flatMap_cons, List.flatMap_nil, List.append_nil]
      rw [show (q + 1).toNat = q.toNat + 1 by omega, List.replicate_succ', List.append_assoc]
    · rw [runStep_new e, flat_app]
      simp [flat]
theorem flat_fold : ∀ (l : List V) (a : List (V × Int)) (K : Int), 0 ≤ K → (∀ r ∈ a, runB K r) → (∀ x ∈ l, x.ok) → flat (l.foldl runStep a) = flat a ++ l
  | [], a, K, _, _, _ => by simp
  | x :: l, a, K, hK, ha, hl => by
    rw [List.foldl_cons, flat_fold l (runStep a x) (K + 1) (by omega) (runStep_b hK ha (hl x (by simp))) (fun y hy => hl y (by simp [hy])), flat_step (fun r hr => (ha r hr).2.1)]
    simp
theorem flat_runs {l : List V} (h : ∀ x ∈ l, x.ok) : flat (runsOf l) = l := by
  have := flat_fold l [] 0 (by omega) (by simp) h
  rw [show flat [] = [] from rfl, List.nil_append] at this
  exact this
theorem spread_fold : ∀ (rs : List (V × Int)) (out : List V), (∀ r ∈ rs, 1 ≤ r.2) → out.length + (flat rs).length ≤ 64 → rs.foldl spreadStep (some out) = some (out ++ flat rs)
  | [], out, _, _ => by simp [flat]
  | r :: rs, out, h, hl => by
    have hr := h r (by simp)
    have e : flat (r :: rs) = List.replicate r.2.toNat r.1 ++ flat rs := by simp [flat]
    rw [e, List.length_append, List.length_replicate] at hl
    rw [List.foldl_cons, show spreadStep (some out) r = some (out ++ List.replicate r.2.toNat r.1) by
      simp only [spreadStep, Option.bind_some]
      rw [if_pos (by omega)], spread_fold rs _ (fun y hy => h y (by simp [hy])) (by rw [List.length_append, List.length_replicate]; omega), e, List.append_assoc]
theorem spread_runs {l : List V} (h : ∀ x ∈ l, x.ok) (hl : l.length ≤ 64) : spreadOf (runsOf l) = l := by
  have := spread_fold (runsOf l) [] (fun r hr => (runsOf_good h r hr).2.1) (by rw [flat_runs h]; simpa using hl)
  unfold spreadOf spreadO
  rw [this, flat_runs h]
  rfl
theorem run_ext (b : List UInt8) (r : V × Int) : ∃ t, putRun b r = b ++ t := by
  obtain ⟨t1, h1⟩ := put_ext (putNum b r.2) r.1
  have : ∃ t, putNum b r.2 = b ++ t := by
    unfold putNum
    split
    · exact ⟨_, rfl⟩
    · exact ⟨[], by simp⟩
  obtain ⟨t2, h2⟩ := this
  exact ⟨t2 ++ t1, by unfold putRun; rw [h1, h2, List.append_assoc]⟩
theorem foldRun_ext : ∀ (M : List (V × Int)) (b : List UInt8), ∃ r, M.foldl putRun b = b ++ r
  | [], b => ⟨[], by simp⟩
  | x :: M, b => by
    obtain ⟨r1, h1⟩ := run_ext b x
    obtain ⟨r2, h2⟩ := foldRun_ext M (putRun b x)
    exact ⟨r1 ++ r2, by rw [List.foldl_cons, h2, h1, List.append_assoc]⟩
theorem dr_back {ty : Int} : ∀ (M R : List (V × Int)) (b : List UInt8), (∀ r ∈ M, valOk r.1 = true ∧ r.1.ty = ty ∧ inB r.2 (-1000000000) 1000000000 = true) → drAcc (M.foldl putRun b) ty M.length R b.length = some (R ++ M)
  | [], R, b, _ => by simp [drAcc]
  | r :: M, R, b, h => by
    obtain ⟨x, q⟩ := r
    obtain ⟨hx, ht, hq⟩ := h (x, q) (by simp)
    dsimp only at hx ht hq
    obtain ⟨t, hr⟩ := foldRun_ext M (putRun b (x, q))
    obtain ⟨t1, h1⟩ := put_ext (putNum b q) x
    have e : putRun b (x, q) = putVal (putNum b q) x := rfl
    have hg : getNum (M.foldl putRun (putRun b (x, q))) (b.length : Int) = some (q, (putNum b q).length) := by
      rw [hr, e, h1, List.append_assoc]
      exact getNum_back hq
    have hv : getVal (M.foldl putRun (putRun b (x, q))) ((putNum b q).length : Int) ty = some (x, (putRun b (x, q)).length) := by
      rw [hr, ← ht, e]
      exact getVal_back hx
    have ih := dr_back M (R ++ [(x, q)]) (putRun b (x, q)) (fun y hy => h y (by simp [hy]))
    rw [List.foldl_cons, List.length_cons]
    simp only [drAcc, hg, hv, ih]
    simp
theorem runs_mem {l : List V} (h : ∀ x ∈ l, x.ok) {r : V × Int} (hr : r ∈ runsOf l) : r.1 ∈ l := by
  have h1 := (runsOf_good h r hr).2.1
  have : r.1 ∈ flat (runsOf l) := by
    unfold flat
    rw [List.mem_flatMap]
    exact ⟨r, hr, by rw [List.mem_replicate]; exact ⟨by omega, rfl⟩⟩
  rwa [flat_runs h] at this
theorem runs_back {l : List V} (hlo : ∀ x ∈ l, x.ok) (h : ¬ typeOf l = 0) : drL (encRuns l) (typeOf l) (l.length : Int) = l ∧ drOk (encRuns l) (typeOf l) (l.length : Int) = true := by
  obtain ⟨h1, h2, h3⟩ := typeOf_facts h
  have he : encRuns l = (runsOf l).foldl putRun (putNum [] ((runsOf l).length : Int)) := by unfold encRuns; rw [if_neg h]
  have hn1 := runsOf_pos h1
  have hn2 := runsOf_len l
  have hgood := runsOf_good hlo
  have hin : inB ((runsOf l).length : Int) (-1000000000) 1000000000 = true := inB_true ⟨by omega, by omega⟩
  obtain ⟨t, ht⟩ := foldRun_ext (runsOf l) (putNum [] ((runsOf l).length : Int))
  have hg : getNum (encRuns l) 0 = some (((runsOf l).length : Int), (putNum [] ((runsOf l).length : Int)).length) := by
    rw [he, ht]
    exact getNum_back (b := []) hin
  have hd := dr_back (ty := typeOf l) (runsOf l) [] (putNum [] ((runsOf l).length : Int)) (fun r hr => ⟨(h3 _ (runs_mem hlo hr)).1, (h3 _ (runs_mem hlo hr)).2, inB_true ⟨by have := (hgood r hr).2.1; omega, by have := (hgood r hr).2.2; omega⟩⟩)
  rw [← he, List.nil_append] at hd
  have hsp := spread_runs hlo h2
  have hy := dr_yes hg (inB_true ⟨by omega, by omega⟩) (inB_true (n := (l.length : Int)) ⟨by omega, by omega⟩) hd (by rw [hsp]) (by rw [hsp])
  rw [hsp] at hy
  exact dr_some hy
def Adj (rs : List (V × Int)) : Prop := ∀ (i : Nat) (a b : V × Int), rs[i]? = some a → rs[i + 1]? = some b → a.1 ≠ b.1
theorem adj_step {a : List (V × Int)} {x : V} (h : Adj a) : Adj (runStep a x) := by
  rcases List.eq_nil_or_concat a with rfl | ⟨a', ⟨y, q⟩, rfl⟩
  · intro i r s _ h2
    simp [runStep] at h2
  · rw [List.concat_eq_append] at h ⊢
    by_cases e : y = x
    · subst e
      rw [runStep_same]
      intro i r s h1 h2
      have key : ∀ (j : Nat) (r : V × Int), (a' ++ [(y, q + 1)])[j]? = some r → ∃ r', (a' ++ [(y, q)])[j]? = some r' ∧ r'.1 = r.1 := by
        intro j r hj
        rcases Nat.lt_or_ge j a'.length with hl | hl
        · rw [List.getElem?_append_left hl] at hj ⊢
          exact ⟨r, hj, rfl⟩
        · rw [List.getElem?_append_right hl] at hj ⊢
          rcases Nat.eq_zero_or_pos (j - a'.length) with h0 | h0
          · rw [h0] at hj ⊢
            simp at hj
            exact ⟨(y, q), rfl, by rw [← hj]⟩
          · rw [List.getElem?_eq_none (by simp; omega)] at hj
            cases hj
      obtain ⟨r', k1, k2⟩ := key i r h1
      obtain ⟨s', k3, k4⟩ := key (i + 1) s h2
      rw [← k2, ← k4]
      exact h i r' s' k1 k3
    · rw [runStep_new e]
      intro i r s h1 h2
      have hi : i + 1 < (a' ++ [(y, q)] ++ [(x, 1)]).length := (List.getElem?_eq_some_iff.1 h2).1
      simp at hi
      rcases Nat.lt_or_ge (i + 1) (a' ++ [(y, q)]).length with hl | hl
      · rw [List.getElem?_append_left hl] at h2
        rw [List.getElem?_append_left (by omega)] at h1
        exact h i r s h1 h2
      · simp at hl
        have hi2 : i = a'.length := by omega
        subst hi2
        rw [List.getElem?_append_left (by simp), List.getElem?_append_right (Nat.le_refl _)] at h1
        rw [List.getElem?_append_right (by simp)] at h2
        simp at h1 h2
        rw [← h1, ← h2]
        exact e
theorem adj_runs (l : List V) : Adj (runsOf l) := by
  have key : ∀ (l : List V) (a : List (V × Int)), Adj a → Adj (l.foldl runStep a) := by
    intro l
    induction l with
    | nil => intro a h; exact h
    | cons x l ih => intro a h; exact ih _ (adj_step h)
  exact key l [] (fun i a b h => by simp at h)
def sumK (rs : List (V × Int)) (k : Nat) : Int := ((flat (rs.take k)).length : Int)
theorem sumK_zero (rs : List (V × Int)) : sumK rs 0 = 0 := by simp [sumK, flat]
theorem sumK_snoc {rs : List (V × Int)} {k : Nat} {x : V} {q : Int} (h : rs[k]? = some (x, q)) (hq : 1 ≤ q) : sumK rs (k + 1) = sumK rs k + q := by
  unfold sumK
  rw [List.take_add_one, h]
  have e : flat (rs.take k ++ (some (x, q)).toList) = flat (rs.take k) ++ List.replicate q.toNat x := by
    rw [flat_app]
    simp [flat]
  rw [e, List.length_append, List.length_replicate]
  omega
theorem sumK_end {l : List V} (h : ∀ x ∈ l, x.ok) : sumK (runsOf l) (runsOf l).length = l.length := by
  unfold sumK
  rw [List.take_of_length_le (Nat.le_refl _), flat_runs h]
theorem sumK_bd {l : List V} (h : ∀ x ∈ l, x.ok) (k : Nat) : 0 ≤ sumK (runsOf l) k ∧ sumK (runsOf l) k ≤ l.length := by
  refine ⟨by unfold sumK; omega, ?_⟩
  have e : flat (runsOf l) = flat ((runsOf l).take k) ++ flat ((runsOf l).drop k) := by rw [← flat_app, List.take_append_drop]
  rw [flat_runs h] at e
  have := congrArg List.length e
  rw [List.length_append] at this
  unfold sumK
  omega
theorem turns_pos {l : List V} (h : 1 ≤ l.length) : ∃ M : Nat, turnsOf l = (M : Int) ∧ (runsOf l).length = M + 1 := by
  have h1 := runsOf_pos h
  exact ⟨(runsOf l).length - 1, by unfold turnsOf; omega, by omega⟩

end Go.Proofs.Ytgpimlmolcjeoaa
