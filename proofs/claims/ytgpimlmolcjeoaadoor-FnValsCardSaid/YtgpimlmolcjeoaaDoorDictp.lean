/-
  Plain words on dictionaries: the order of values, the reference's dictionary, and that a sorted row without its repeats is it.
-/
import Derived.Test.YtgpimlmolcjeoaaDoorAppend
import Derived.Test.YtgpimlmolcjeoaaDoorVal
namespace Go.Proofs.YtgpimlmolcjeoaaDoor
open Go.RowKit
set_option linter.unusedVariables false

theorem bl_irrefl : ∀ x : List UInt8, Op.bytesLess x x = false
  | [] => rfl
  | a :: x => by simp [Op.bytesLess, bl_irrefl x]
theorem bl_trans : ∀ x y z : List UInt8, Op.bytesLess x y = true → Op.bytesLess y z = true → Op.bytesLess x z = true
  | _, [], _, h, _ => by simp [Op.bytesLess] at h
  | _, _ :: _, [], _, h => by simp [Op.bytesLess] at h
  | [], _ :: _, _ :: _, _, _ => rfl
  | a :: x, b :: y, c :: z, h1, h2 => by
    simp only [Op.bytesLess, Bool.or_eq_true, Bool.and_eq_true, decide_eq_true_eq, beq_iff_eq] at h1 h2 ⊢
    rcases h1 with h1 | ⟨rfl, h1⟩
    · rcases h2 with h2 | ⟨rfl, h2⟩
      · exact .inl (UInt8.lt_trans h1 h2)
      · exact .inl h1
    · rcases h2 with h2 | ⟨rfl, h2⟩
      · exact .inl h2
      · exact .inr ⟨rfl, bl_trans x y z h1 h2⟩
theorem bl_total : ∀ x y : List UInt8, Op.bytesLess x y = false → Op.bytesLess y x = false → x = y
  | [], [], _, _ => rfl
  | [], _ :: _, h, _ => by simp [Op.bytesLess] at h
  | _ :: _, [], _, h => by simp [Op.bytesLess] at h
  | a :: x, b :: y, h1, h2 => by
    simp only [Op.bytesLess, Bool.or_eq_false_iff, Bool.and_eq_false_iff, decide_eq_false_iff_not, beq_eq_false_iff_ne] at h1 h2
    have hab : a = b := by
      have e1 := h1.1
      have e2 := h2.1
      rw [UInt8.lt_iff_toNat_lt] at e1 e2
      exact UInt8.toNat_inj.1 (by omega)
    subst hab
    rw [bl_total x y (h1.2.resolve_left (by simp)) (h2.2.resolve_left (by simp))]
theorem lessV_iff {a b : V} : lessV a b = true ↔ a.ty < b.ty ∨ (a.ty = b.ty ∧ (a.n < b.n ∨ (a.n = b.n ∧ Op.bytesLess a.s.toList b.s.toList = true))) := by
  unfold lessV
  by_cases h1 : a.ty = b.ty
  · by_cases h2 : a.n = b.n
    · simp [h1, h2]
    · simp [h1, h2]
  · simp [h1]
theorem lessV_irrefl (a : V) : lessV a a = false := by simp [lessV, bl_irrefl]
theorem lessV_trans {a b c : V} (h1 : lessV a b = true) (h2 : lessV b c = true) : lessV a c = true := by
  rw [lessV_iff] at h1 h2 ⊢
  rcases h1 with h1 | ⟨e1, h1⟩
  · rcases h2 with h2 | ⟨e2, h2⟩
    · exact .inl (by omega)
    · exact .inl (by omega)
  · rcases h2 with h2 | ⟨e2, h2⟩
    · exact .inl (by omega)
    · refine .inr ⟨by omega, ?_⟩
      rcases h1 with h1 | ⟨e3, h1⟩
      · rcases h2 with h2 | ⟨e4, h2⟩
        · exact .inl (by omega)
        · exact .inl (by omega)
      · rcases h2 with h2 | ⟨e4, h2⟩
        · exact .inl (by omega)
        · exact .inr ⟨by omega, bl_trans _ _ _ h1 h2⟩
theorem lessV_total {a b : V} (h1 : lessV a b = false) (h2 : lessV b a = false) : a = b := by
  have e1 : ¬ (lessV a b = true) := by simp [h1]
  have e2 : ¬ (lessV b a = true) := by simp [h2]
  rw [lessV_iff] at e1 e2
  have t : a.ty = b.ty := by omega
  have n : a.n = b.n := by
    rcases Int.lt_trichotomy a.n b.n with h | h | h
    · exact absurd (.inr ⟨t, .inl h⟩) e1
    · exact h
    · exact absurd (.inr ⟨t.symm, .inl h⟩) e2
  have s : a.s.toList = b.s.toList := by
    apply bl_total
    · cases h : Op.bytesLess a.s.toList b.s.toList
      · rfl
      · exact absurd (.inr ⟨t, .inr ⟨n, h⟩⟩) e1
    · cases h : Op.bytesLess b.s.toList a.s.toList
      · rfl
      · exact absurd (.inr ⟨t.symm, .inr ⟨n.symm, h⟩⟩) e2
  exact veq_iff.1 (by simp [veq, t, n, s])
theorem lessV_asymm {a b : V} (h : lessV a b = true) : lessV b a = false := by
  cases h2 : lessV b a
  · rfl
  · have := lessV_trans h h2
    rw [lessV_irrefl] at this
    cases this

def insV (x : V) : List V → List V
  | [] => [x]
  | y :: ys => if lessV y x = true then y :: insV x ys else if veq y x = true then y :: ys else x :: y :: ys
def dictOf (l : List V) : List V := l.foldl (fun d x => insV x d) []
theorem insV_at {x : V} : ∀ {d : List V} {k : Nat}, (∀ j y, j < k → d[j]? = some y → lessV y x = true) → (∀ y, d[k]? = some y → lessV y x = false) → k ≤ d.length →
    insV x d = if (∃ y, d[k]? = some y ∧ veq y x = true) then d else d.take k ++ x :: d.drop k
  | [], k, _, _, hk => by simp at hk; subst hk; simp [insV]
  | z :: d, 0, _, h2, _ => by
    have h := h2 z rfl
    unfold insV
    rw [if_neg (by simp [h])]
    by_cases hv : veq z x = true
    · rw [if_pos hv, if_pos ⟨z, rfl, hv⟩]
    · rw [if_neg hv, if_neg (by rintro ⟨y, hy, hv2⟩; injection hy with hy; subst hy; exact hv hv2)]
      rfl
  | z :: d, k + 1, h1, h2, hk => by
    have h := h1 0 z (by omega) rfl
    have ih := insV_at (x := x) (d := d) (k := k) (fun j y hj hy => h1 (j + 1) y (by omega) hy) (fun y hy => h2 y hy) (by simpa using hk)
    unfold insV
    rw [if_pos h, ih]
    simp only [List.getElem?_cons_succ, List.take_succ_cons, List.drop_succ_cons]
    split
    · rfl
    · rfl
def SS (d : List V) : Prop := d.Pairwise fun a b => lessV a b = true
theorem mem_insV {x y : V} : ∀ {d : List V}, y ∈ insV x d ↔ y = x ∨ y ∈ d
  | [] => by simp [insV]
  | z :: d => by
    unfold insV
    split
    · rw [List.mem_cons, mem_insV, List.mem_cons]
      constructor
      · rintro (h | h | h)
        · exact .inr (.inl h)
        · exact .inl h
        · exact .inr (.inr h)
      · rintro (h | h | h)
        · exact .inr (.inl h)
        · exact .inl h
        · exact .inr (.inr h)
    · split
      · rename_i hv
        have e := veq_iff.1 hv
        subst e
        simp
      · simp
theorem ss_insV {x : V} : ∀ {d : List V}, SS d → SS (insV x d)
  | [], _ => by simp [SS, insV]
  | z :: d, h => by
    have hz := (List.pairwise_cons.1 h).1
    have hd := (List.pairwise_cons.1 h).2
    unfold insV
    split
    · rename_i hl
      refine List.pairwise_cons.2 ⟨fun y hy => ?_, ss_insV hd⟩
      rcases mem_insV.1 hy with rfl | hy
      · exact hl
      · exact hz y hy
    · split
      · exact h
      · rename_i hl hv
        have hxz : lessV x z = true := by
          cases hh : lessV x z
          · exact absurd (veq_iff.2 (lessV_total (by simpa using hl) hh)) hv
          · rfl
        refine List.pairwise_cons.2 ⟨fun y hy => ?_, h⟩
        rcases List.mem_cons.1 hy with rfl | hy
        · exact hxz
        · exact lessV_trans hxz (hz y hy)
theorem insV_len (x : V) : ∀ d : List V, (insV x d).length ≤ d.length + 1
  | [] => by simp [insV]
  | z :: d => by
    have ih := insV_len x d
    unfold insV
    split
    · simp; omega
    · split <;> simp
theorem dict_snoc {l : List V} {k : Nat} {x : V} (h : l[k]? = some x) : dictOf (l.take (k + 1)) = insV x (dictOf (l.take k)) := by
  unfold dictOf
  rw [List.take_add_one, h]
  simp [List.foldl_append]
theorem dict_facts : ∀ (l : List V) (d : List V), SS d → SS (l.foldl (fun d x => insV x d) d) ∧ (∀ y, y ∈ l.foldl (fun d x => insV x d) d ↔ y ∈ d ∨ y ∈ l) ∧ (l.foldl (fun d x => insV x d) d).length ≤ d.length + l.length
  | [], d, h => ⟨h, by simp, by simp⟩
  | x :: l, d, h => by
    have ih := dict_facts l (insV x d) (ss_insV h)
    refine ⟨ih.1, fun y => ?_, ?_⟩
    · rw [List.foldl_cons, ih.2.1 y, mem_insV, List.mem_cons]
      constructor
      · rintro ((h | h) | h)
        · exact .inr (.inl h)
        · exact .inl h
        · exact .inr (.inr h)
      · rintro (h | h | h)
        · exact .inl (.inr h)
        · exact .inl (.inl h)
        · exact .inr h
    · have h1 := insV_len x d
      have h2 := ih.2.2
      rw [List.foldl_cons, List.length_cons]
      omega
theorem dict_ss (l : List V) : SS (dictOf l) := (dict_facts l [] List.Pairwise.nil).1
theorem dict_mem (l : List V) (y : V) : y ∈ dictOf l ↔ y ∈ l := by rw [dictOf, (dict_facts l [] List.Pairwise.nil).2.1 y]; simp
theorem dict_len (l : List V) : (dictOf l).length ≤ l.length := by
  have := (dict_facts l [] List.Pairwise.nil).2.2
  simpa [dictOf] using this
theorem ss_unique : ∀ {d d' : List V}, SS d → SS d' → (∀ y, y ∈ d ↔ y ∈ d') → d = d'
  | [], [], _, _, _ => rfl
  | [], b :: d', _, _, h => absurd ((h b).2 (by simp)) (by simp)
  | a :: d, [], _, _, h => absurd ((h a).1 (by simp)) (by simp)
  | a :: d, b :: d', h1, h2, h => by
    have ha := List.pairwise_cons.1 h1
    have hb := List.pairwise_cons.1 h2
    have hab : a = b := by
      rcases List.mem_cons.1 ((h a).1 (by simp)) with e | e
      · exact e
      · rcases List.mem_cons.1 ((h b).2 (by simp)) with e2 | e2
        · exact e2.symm
        · have x1 := hb.1 a e
          have x2 := lessV_asymm (ha.1 b e2)
          rw [x1] at x2
          cases x2
    subst hab
    rw [ss_unique ha.2 hb.2 fun y => ?_]
    constructor
    · intro hy
      rcases List.mem_cons.1 ((h y).1 (List.mem_cons_of_mem _ hy)) with e | e
      · subst e
        have := ha.1 y hy
        rw [lessV_irrefl] at this
        cases this
      · exact e
    · intro hy
      rcases List.mem_cons.1 ((h y).2 (List.mem_cons_of_mem _ hy)) with e | e
      · subst e
        have := hb.1 y hy
        rw [lessV_irrefl] at this
        cases this
      · exact e
/-- the first j of a row, of equals that stand side by side only the first -/
def compTo (s : List V) : Nat → List V
  | 0 => []
  | j + 1 => match s[j]? with
    | none => compTo s j
    | some x => if 0 < j ∧ s[j - 1]? = some x then compTo s j else compTo s j ++ [x]
theorem compTo_same {s : List V} {j : Nat} {x : V} (h : s[j]? = some x) (h0 : 0 < j) (h1 : s[j - 1]? = some x) : compTo s (j + 1) = compTo s j := by
  simp only [compTo, h]
  rw [if_pos ⟨h0, h1⟩]
theorem compTo_new {s : List V} {j : Nat} {x : V} (h : s[j]? = some x) (h1 : 0 < j → s[j - 1]? ≠ some x) : compTo s (j + 1) = compTo s j ++ [x] := by
  simp only [compTo, h]
  rw [if_neg (fun hh => h1 hh.1 hh.2)]
theorem compTo_len (s : List V) : ∀ j, (compTo s j).length ≤ j
  | 0 => by simp [compTo]
  | j + 1 => by
    have ih := compTo_len s j
    unfold compTo
    split
    · omega
    · split
      · omega
      · simp; omega
theorem compTo_facts {s : List V} (hs : ∀ (i j : Nat) (x y : V), i < j → s[i]? = some x → s[j]? = some y → lessV y x = false) : ∀ j, j ≤ s.length → SS (compTo s j) ∧ ∀ y, y ∈ compTo s j ↔ y ∈ s.take j
  | 0, _ => ⟨List.Pairwise.nil, by simp [compTo]⟩
  | j + 1, hj => by
    obtain ⟨ih1, ih2⟩ := compTo_facts hs j (by omega)
    obtain ⟨x, hx⟩ : ∃ x, s[j]? = some x := ⟨_, List.getElem?_eq_getElem (by omega)⟩
    have ht : s.take (j + 1) = s.take j ++ [x] := by rw [List.take_add_one, hx]; rfl
    by_cases hc : 0 < j ∧ s[j - 1]? = some x
    · rw [compTo_same hx hc.1 hc.2, ht]
      refine ⟨ih1, fun y => ?_⟩
      rw [ih2 y, List.mem_append, List.mem_singleton]
      refine ⟨.inl, fun h => h.elim id fun e => ?_⟩
      subst e
      refine List.mem_of_getElem? (i := j - 1) ?_
      rw [List.getElem?_take, if_pos (by omega)]
      exact hc.2
    · have hne : 0 < j → s[j - 1]? ≠ some x := fun h0 he => hc ⟨h0, he⟩
      rw [compTo_new hx hne, ht]
      refine ⟨?_, fun y => ?_⟩
      · refine List.pairwise_append.2 ⟨ih1, List.pairwise_singleton _ _, fun a ha b hb => ?_⟩
        rw [List.mem_singleton] at hb
        subst hb
        have ha' := (ih2 a).1 ha
        obtain ⟨i, hi, hia⟩ := List.getElem_of_mem ha'
        rw [List.length_take] at hi
        have hsi : s[i]? = some a := by
          rw [List.getElem_take] at hia
          rw [List.getElem?_eq_getElem (by omega), hia]
        have hji := hs i j a b (by omega) hsi hx
        cases hab : lessV a b
        · exfalso
          have e := lessV_total hab hji
          subst e
          have hj1 : s[j - 1]? = some a := by
            by_cases hij : i = j - 1
            · rw [← hij]; exact hsi
            · obtain ⟨z, hz⟩ : ∃ z, s[j - 1]? = some z := ⟨_, List.getElem?_eq_getElem (by omega)⟩
              have h1 := hs i (j - 1) a z (by omega) hsi hz
              have h2 := hs (j - 1) j z a (by omega) hz hx
              rw [hz, lessV_total h1 h2]
          exact hne (by omega) hj1
        · rfl
      · rw [List.mem_append, List.mem_append, ih2 y]
theorem dict_of_sorted {l s : List V} (hp : s.Perm l) (hs : ∀ (i j : Nat) (x y : V), i < j → s[i]? = some x → s[j]? = some y → lessV y x = false) : compTo s s.length = dictOf l := by
  obtain ⟨h1, h2⟩ := compTo_facts hs s.length (Nat.le_refl _)
  refine ss_unique h1 (dict_ss l) fun y => ?_
  rw [h2 y, dict_mem, List.take_length]
  exact hp.mem_iff

end Go.Proofs.YtgpimlmolcjeoaaDoor
