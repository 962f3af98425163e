/-
  Plain laws of a text cut at its blanks, no program in sight: the library's cut and the reference's are one.
-/
import Derived.Test.YtgpimlmolcjeoaaGreatDoorNump
import Derived.Lib.SplitLaws
namespace Go.Proofs.YtgpimlmolcjeoaaGreatDoor

def splitL : List UInt8 → List (List UInt8)
  | [] => [[]]
  | c :: r => if c = 32 then [] :: splitL r else (match splitL r with | [] => [[c]] | x :: xs => (c :: x) :: xs)
theorem splitL_ne (l : List UInt8) : ∃ x xs, splitL l = x :: xs := by
  cases l with
  | nil => exact ⟨_, _, rfl⟩
  | cons c r =>
    simp only [splitL]
    split
    · exact ⟨_, _, rfl⟩
    · cases splitL r with
      | nil => exact ⟨_, _, rfl⟩
      | cons x xs => exact ⟨_, _, rfl⟩
theorem splitL_blank (r : List UInt8) : splitL (32 :: r) = [] :: splitL r := by simp [splitL]
theorem splitL_cons {c : UInt8} {r x : List UInt8} {xs : List (List UInt8)} (hc : c ≠ 32) (h : splitL r = x :: xs) : splitL (c :: r) = (c :: x) :: xs := by simp [splitL, hc, h]
theorem split_hit : ∀ (m : Nat) (l : List UInt8), (∀ t, t < m → l[t]? ≠ some 32) → l[m]? = some 32 → splitL l = l.take m :: splitL (l.drop (m + 1))
  | 0, l, _, h => by
    cases l with
    | nil => simp at h
    | cons c r =>
      have hc : c = 32 := by simpa using h
      subst hc
      rw [splitL_blank]
      simp
  | m + 1, l, hn, h => by
    cases l with
    | nil => simp at h
    | cons c r =>
      have hc : c ≠ 32 := fun e => hn 0 (by omega) (by simp [e])
      have h2 := split_hit m r (fun t ht => by have := hn (t + 1) (by omega); simpa using this) (by simpa using h)
      rw [splitL_cons hc h2]
      simp
theorem split_end : ∀ l : List UInt8, (∀ t, t < l.length → l[t]? ≠ some 32) → splitL l = [l]
  | [], _ => rfl
  | c :: r, h => by
    have hc : c ≠ 32 := fun e => h 0 (by simp) (by simp [e])
    have h2 := split_end r (fun t ht => by have := h (t + 1) (by simpa using ht); simpa using this)
    rw [splitL_cons hc h2]
theorem splitL_length (l : List UInt8) : (splitL l).length ≤ l.length + 1 := by
  induction l with
  | nil => simp [splitL]
  | cons c r ih =>
    obtain ⟨x, xs, hx⟩ := splitL_ne r
    by_cases hc : c = 32
    · subst hc; rw [splitL_blank]; simp; exact ih
    · rw [splitL_cons hc hx]; rw [hx] at ih; simp at ih ⊢; omega
theorem split_word : ∀ (l w : List UInt8), w ∈ splitL l → w.length ≤ l.length := by
  intro l
  induction l with
  | nil => intro w hw; simp [splitL] at hw; subst hw; simp
  | cons c r ih =>
    intro w hw
    obtain ⟨x, xs, hx⟩ := splitL_ne r
    by_cases hc : c = 32
    · subst hc
      rw [splitL_blank] at hw
      rcases List.mem_cons.1 hw with h | h
      · subst h; simp
      · have := ih w h; simp; omega
    · rw [splitL_cons hc hx] at hw
      rcases List.mem_cons.1 hw with h | h
      · subst h; have := ih x (by rw [hx]; simp); simp; exact this
      · have := ih w (by rw [hx]; simp [h]); simp; omega
/-- The library's cut is this one. -/
theorem splitK_eq : ∀ l : List UInt8, Lib.splitK [32] 0 (l.count 32) l = splitL l
  | [] => rfl
  | c :: r => by
    by_cases hc : c = 32
    · subst hc
      have hi : Lib.index (32 :: r) [32] = 0 := by rw [Lib.index]; simp [List.isPrefixOf]
      rw [List.count_cons_self, Lib.splitK, hi, splitL_blank, ← splitK_eq r]
      simp
    · have ih := splitK_eq r
      rw [List.count_cons_of_ne (by simpa using hc)]
      have hp : ([32] : List UInt8).isPrefixOf (c :: r) = false := by simp [List.isPrefixOf, Ne.symm hc]
      have hi : Lib.index (c :: r) [32] = if Lib.index r [32] == -1 then -1 else Lib.index r [32] + 1 := by rw [Lib.index, hp]; simp
      cases hk : r.count 32 with
      | zero =>
        rw [hk] at ih
        have h2 : splitL r = r :: [] := ih.symm
        rw [splitL_cons hc h2]
        rfl
      | succ k =>
        rw [hk] at ih
        rw [Lib.splitK] at ih ⊢
        by_cases hm : Lib.index r [32] = -1
        · have he : (Lib.index r [32] == -1) = true := beq_iff_eq.2 hm
          rw [if_pos he] at ih
          rw [hi, if_pos he, if_pos (by decide), splitL_cons hc ih.symm]
        · have he : ¬ (Lib.index r [32] == -1) = true := fun e => hm (beq_iff_eq.1 e)
          have hge := Lib.index_ge r [32]
          obtain ⟨p, hp2⟩ : ∃ p : Nat, Lib.index r [32] = p := ⟨(Lib.index r [32]).toNat, by omega⟩
          rw [if_neg he, hp2] at ih
          rw [hi, if_neg he, hp2, if_neg (fun e => by have := beq_iff_eq.1 e; omega), splitL_cons hc ih.symm]
          have e1 : ((p : Int) + 1).toNat = p + 1 := by omega
          rw [e1]
          simp
def wordsOf (s : ByteArray) : List ByteArray := (splitL s.data.toList).map fun x => ⟨x.toArray⟩
theorem mk_list (s : ByteArray) : (⟨s.data.toList.toArray⟩ : ByteArray) = s := rfl
theorem words_lib (s : ByteArray) : Lib.splitB ⟨#[32]⟩ 0 (Lib.countB s ⟨#[32]⟩) s = wordsOf s := by
  have h1 := Lib.splitB_data ⟨#[32]⟩ 0 (Lib.countB s ⟨#[32]⟩) s
  have h2 : Lib.countB s ⟨#[32]⟩ = s.data.toList.count 32 := Lib.count_one 32 s.data.toList
  rw [h2] at h1 ⊢
  have h3 : (Lib.splitB ⟨#[32]⟩ 0 (s.data.toList.count 32) s).map (·.data.toList) = splitL s.data.toList := h1.trans (splitK_eq _)
  unfold wordsOf
  rw [← h3, List.map_map]
  exact (List.map_id _).symm
theorem words_count (s : ByteArray) : Lib.countB s ⟨#[32]⟩ + 1 = (wordsOf s).length := by
  rw [← words_lib]
  exact (Lib.splitB_all ⟨#[32]⟩ (by decide) 0 _ s rfl).symm
theorem words_length (s : ByteArray) : (wordsOf s).length ≤ s.size + 1 := by
  have := splitL_length s.data.toList
  have e : s.data.toList.length = s.size := by simp
  simp only [wordsOf, List.length_map]
  omega
theorem words_size {s x : ByteArray} (h : x ∈ wordsOf s) : x.size ≤ s.size := by
  obtain ⟨l, hl, rfl⟩ := List.mem_map.1 h
  have := split_word _ _ hl
  have e : s.data.toList.length = s.size := by simp
  simp only [ByteArray.size, List.size_toArray]
  simp only [ByteArray.size] at e
  omega
/-- What the reference's loop knows behind j bytes: the words so far, and from where the next one runs. -/
def SplitTo (s : ByteArray) (ws : List ByteArray) (f j : Nat) : Prop :=
  (j ≤ s.size → f ≤ j ∧ (∀ t, f ≤ t → t < j → s.data.toList[t]? ≠ some 32) ∧ splitL s.data.toList = ws.map (·.data.toList) ++ splitL (s.data.toList.drop f)) ∧
  (s.size < j → splitL s.data.toList = ws.map (·.data.toList))
theorem SplitTo.zero (s : ByteArray) : SplitTo s [] 0 0 := ⟨fun _ => ⟨Nat.le_refl _, fun t _ h => absurd h (by omega), by simp⟩, fun h => absurd h (by omega)⟩
theorem SplitTo.skip {s : ByteArray} {ws : List ByteArray} {f j : Nat} {b : UInt8} (h : SplitTo s ws f j) (hj : j < s.size) (hb : s.data.toList[j]? = some b) (hn : b ≠ 32) : SplitTo s ws f (j + 1) := by
  obtain ⟨h1, h2, h3⟩ := h.1 (by omega)
  refine ⟨fun _ => ⟨by omega, fun t ht ht2 => ?_, h3⟩, fun h => absurd h (by omega)⟩
  by_cases he : t = j
  · subst he
    rw [hb]
    intro e
    exact hn (Option.some.inj e)
  · exact h2 t ht (by omega)
theorem extract_list (s : ByteArray) (f j : Nat) : (s.extract f j).data.toList = (s.data.toList.drop f).take (j - f) := by
  rw [ByteArray.data_extract, Array.toList_extract]
theorem SplitTo.hit {s : ByteArray} {ws : List ByteArray} {f j : Nat} (h : SplitTo s ws f j) (hj : j < s.size) (hb : s.data.toList[j]? = some 32) : SplitTo s (ws ++ [s.extract f j]) (j + 1) (j + 1) := by
  obtain ⟨h1, h2, h3⟩ := h.1 (by omega)
  refine ⟨fun _ => ⟨Nat.le_refl _, fun t ht ht2 => absurd ht (by omega), ?_⟩, fun h => absurd h (by omega)⟩
  have h4 := split_hit (j - f) (s.data.toList.drop f) (fun t ht => by rw [List.getElem?_drop]; exact h2 _ (by omega) (by omega)) (by rw [List.getElem?_drop, show f + (j - f) = j by omega]; exact hb)
  rw [h3, h4, List.map_append, List.append_assoc]
  simp only [List.map_cons, List.map_nil, List.singleton_append, extract_list, List.drop_drop]
  rw [show f + (j - f + 1) = j + 1 by omega]
theorem SplitTo.last {s : ByteArray} {ws : List ByteArray} {f : Nat} (h : SplitTo s ws f s.size) : SplitTo s (ws ++ [s.extract f s.size]) (s.size + 1) (s.size + 1) := by
  obtain ⟨h1, h2, h3⟩ := h.1 (Nat.le_refl _)
  refine ⟨fun h => absurd h (by omega), fun _ => ?_⟩
  have e : s.data.toList.length = s.size := by simp
  have h4 := split_end (s.data.toList.drop f) (fun t ht => by rw [List.getElem?_drop]; rw [List.length_drop] at ht; exact h2 _ (by omega) (by omega))
  rw [h3, h4, List.map_append]
  simp only [List.map_cons, List.map_nil, extract_list]
  rw [List.take_of_length_le (by rw [List.length_drop]; omega)]
theorem SplitTo.done {s : ByteArray} {ws : List ByteArray} {f j : Nat} (h : SplitTo s ws f j) (hj : s.size < j) : ws = wordsOf s := by
  unfold wordsOf
  rw [h.2 hj, List.map_map]
  exact (List.map_id _).symm
end Go.Proofs.YtgpimlmolcjeoaaGreatDoor
