/-
  Words on memory that all proofs of this seat share: a slice that reads as a list of values, how an argument is opened to it, and how a law's row is closed.
-/
import Derived.Test.YtgpimlmolcjeoaaGreatDoorRows
import Derived.WalkKit
import Derived.ProofKit
import Derived.OpenShut
import Derived.Lib.Hide
import Derived.Deep.Slices
import Derived.Deep.Draws
import Derived.Deep.AppendLies
import Derived.Deep.QuietTactic
import Derived.BigQuiet
import Derived.Deep.LoopGhost
import Derived.Deep.DeepCutAuto
import Derived.Maps.AppendAt
namespace Go.Proofs.YtgpimlmolcjeoaaGreatDoor
open Go.ChangeShapes Go.WideShapes Go.ChangeAt Go.RowKit
open Go.ChangeMaps (open_string)

/-! ### lists -/
theorem exists_list {α : Type} (n : Nat) (R : Nat → α → Prop) (h : ∀ i, i < n → ∃ x, R i x) : ∃ xs : List α, xs.length = n ∧ ∀ i x, xs[i]? = some x → R i x := by
  induction n with
  | zero => exact ⟨[], rfl, by simp⟩
  | succ n ih =>
    obtain ⟨xs, hl, hx⟩ := ih (fun i hi => h i (by omega))
    obtain ⟨y, hy⟩ := h n (by omega)
    refine ⟨xs ++ [y], by simp [hl], fun i x hi => ?_⟩
    by_cases hn : i < n
    · rw [List.getElem?_append_left (by omega)] at hi
      exact hx i x hi
    · rw [List.getElem?_append_right (by omega)] at hi
      have : i - xs.length = 0 := by
        have := (List.getElem?_eq_some_iff.1 hi).1
        simp at this
        omega
      rw [this] at hi
      have e : i = n := by omega
      subst e
      simp at hi
      subst hi
      exact hy

theorem flatMap_length_u {α β : Type} (enc : α → List β) (s : Nat) (hs : ∀ x, (enc x).length = s) (xs : List α) : (xs.flatMap enc).length = xs.length * s := by
  induction xs with
  | nil => simp
  | cons x xs ih => simp only [List.flatMap_cons, List.length_append, ih, hs, List.length_cons, Nat.add_mul, Nat.one_mul]; omega

theorem flatMap_get_u {α β : Type} (enc : α → List β) (s : Nat) (hs : ∀ x, (enc x).length = s) (xs : List α) (i r : Nat) (hr : r < s) :
    (xs.flatMap enc)[i * s + r]? = (xs[i]?).bind fun x => (enc x)[r]? := by
  induction xs generalizing i with
  | nil => simp
  | cons x xs ih =>
    rw [List.flatMap_cons]
    cases i with
    | zero => rw [List.getElem?_append_left (by rw [hs]; omega)]; simp
    | succ i =>
      rw [List.getElem?_append_right (by rw [hs, Nat.add_mul]; omega)]
      have : (i + 1) * s + r - (enc x).length = i * s + r := by rw [hs, Nat.add_mul]; omega
      rw [this, ih]
      simp

/-! ### a slice that reads as a list of cells -/
def Reads (w : World) (B size : Nat) (A : Option Addr) (n : Nat) (xs : List Value) : Prop :=
  xs.length = n * size ∧ (0 < n → ∃ b off, A = some ⟨b, off, none⟩ ∧ b < B ∧ ∀ j u, xs[j]? = some u → w.cell? ⟨b, off + j, none⟩ = some u)

section
variable {w w' : World} {B B' size n : Nat} {A : Option Addr} {xs : List Value}
theorem Reads.none_ (w : World) (B size : Nat) (A : Option Addr) : Reads w B size A 0 [] := ⟨by simp, fun h => absurd h (by omega)⟩
theorem Reads.keep (h : Reads w B size A n xs) (hk : ∀ p : Addr, p.block < B → w'.cell? p = w.cell? p) : Reads w' B size A n xs :=
  ⟨h.1, fun hn => by
    obtain ⟨b, off, e, hb, hc⟩ := h.2 hn
    exact ⟨b, off, e, hb, fun j u hu => (hk _ hb).trans (hc j u hu)⟩⟩
theorem Reads.more (h : Reads w B size A n xs) (hB : B ≤ B') : Reads w B' size A n xs :=
  ⟨h.1, fun hn => by
    obtain ⟨b, off, e, hb, hc⟩ := h.2 hn
    exact ⟨b, off, e, by omega, hc⟩⟩
theorem Reads.below (h : Reads w B size A n xs) {B1 : Nat} (hb : Below B1 w w') (hB : B ≤ B1) : Reads w' B size A n xs := h.keep fun _ hp => hb.cell (by omega)
theorem Reads.drew (h : Reads w B size A n xs) : Reads w.drew B size A n xs := h
theorem Reads.drewN (h : Reads w B size A n xs) (k : Nat) : Reads (w.drewN k) B size A n xs := h
theorem Reads.alloc (h : Reads w B size A n xs) (hB : B ≤ w.heap.size) (o : Obj) : Reads (w.alloc o) B size A n xs := h.keep fun p hp => World.cell?_alloc_lt w o p (by omega)
theorem Reads.setCell (h : Reads w B size A n xs) {p : Addr} (hB : B ≤ p.block) (u : Value) : Reads (w.setCell p u) B size A n xs :=
  h.keep fun q hq => World.cell?_setCell_other w p q u (fun e => by subst e; omega)
theorem Reads.at_ {k : Nat} (h : Reads w B 1 A n xs) (hk : k < n) : ∃ b off, A = some ⟨b, off, none⟩ ∧ b < B ∧ ∀ j, j < n → w.cell? ⟨b, off + j, none⟩ = some (xs.getD j undef) := by
  obtain ⟨b, off, e, hb, hc⟩ := h.2 (by omega)
  refine ⟨b, off, e, hb, fun j hj => ?_⟩
  have hl : j < xs.length := by have := h.1; omega
  rw [hc j xs[j] (List.getElem?_eq_getElem hl)]
  simp [hl]
theorem Reads.cell_ {k r : Nat} (h : Reads w B size A n xs) (hk : k < n) (hr : r < size) : ∃ b off, A = some ⟨b, off, none⟩ ∧ b < B ∧ w.cell? ⟨b, off + (k * size + r), none⟩ = some (xs.getD (k * size + r) undef) := by
  obtain ⟨b, off, e, hb, hc⟩ := h.2 (by omega)
  have hl : k * size + r < xs.length := by
    rw [h.1]
    calc k * size + r < k * size + size := by omega
      _ = (k + 1) * size := by rw [Nat.add_mul]; omega
      _ ≤ n * size := Nat.mul_le_mul_right _ hk
  refine ⟨b, off, e, hb, ?_⟩
  rw [hc _ _ (List.getElem?_eq_getElem hl)]
  simp [hl]
theorem Reads.of_own {base : Nat} {e : TypeId} {c : Nat} (h : w.ownsRow base e size (.slice A n c) n xs) : Reads w w.heap.size size A n xs := by
  refine ⟨h.1, fun hn => ?_⟩
  obtain ⟨g, cap, hv, _, hlt⟩ := h.form hn
  have hA : A = some ⟨g, 0, none⟩ := by injection hv
  subst hA
  refine ⟨g, 0, rfl, hlt, fun j u hu => ?_⟩
  have := h.cells (g := g) rfl j u hu
  unfold Addr.add at this
  split at this
  · rename_i h0; subst h0; simpa using this
  · simpa using this
end

/-! ### cells of the types that this program has -/
def byteV (b : UInt8) : Value := .int .u8 (b.toNat : Int)
def byteCells (bs : List UInt8) : List Value := bs.map byteV
def intCells (xs : List Int) : List Value := xs.map (Value.int .i64)
def strCells (ss : List ByteArray) : List Value := ss.map Value.string
structure V where
  ty : Int
  n : Int
  s : ByteArray
def V.enc (v : V) : List Value := [.int .i64 v.ty, .int .i64 v.n, .string v.s]
def V.val (v : V) : Value := .agg #[.int .i64 v.ty, .int .i64 v.n, .string v.s]
def valCells (vs : List V) : List Value := vs.flatMap V.enc
def runEnc (r : V × Int) : List Value := [.int .i64 r.1.ty, .int .i64 r.1.n, .string r.1.s, .int .i64 r.2]
def runCells (rs : List (V × Int)) : List Value := rs.flatMap runEnc
structure RowV where
  id : Int
  A : Option Addr
  c : Nat
  l : List V
def RowV.enc (r : RowV) : List Value := [.int .i64 r.id, .slice r.A r.l.length r.c]
def RowV.val (r : RowV) : Value := .agg #[.int .i64 r.id, .slice r.A r.l.length r.c]
def I64 (n : Int) : Prop := -9223372036854775808 ≤ n ∧ n ≤ 9223372036854775807
def V.ok (v : V) : Prop := I64 v.ty ∧ I64 v.n ∧ v.s.size ≤ maxLen
def runOk (r : V × Int) : Prop := r.1.ok ∧ I64 r.2
def RowV.okB (r : RowV) (w : World) (B : Nat) : Prop := I64 r.id ∧ r.l.length ≤ r.c ∧ r.c ≤ maxLen ∧ Reads w B 3 r.A r.l.length (valCells r.l) ∧ ∀ x ∈ r.l, x.ok
def RowV.ok (r : RowV) (w : World) : Prop := r.okB w w.heap.size

theorem I64_of_wf {n : Int} (h : (Lit.int .i64 n).wf = true) : I64 n := by
  simpa [Lit.wf, IntKind.min, IntKind.max, IntKind.signed, IntKind.bits, I64] using h

/-! ### from one world to the next -/
theorem Reads.step {w w' : World} {size n : Nat} {A : Option Addr} {xs : List Value} (h : Reads w w.heap.size size A n xs) (hb : Below w.heap.size w w') : Reads w' w'.heap.size size A n xs :=
  (h.below hb (Nat.le_refl _)).more hb.size
theorem Reads.stepB {w w' : World} {B B' size n : Nat} {A : Option Addr} {xs : List Value} (h : Reads w B size A n xs) (hB : B ≤ B') (hb : Below B' w w') : Reads w' B size A n xs := h.below hb hB
theorem Below.step {B : Nat} {w w1 w2 : World} (h : Below B w w1) (hB : B ≤ w.heap.size) (hb : Below w1.heap.size w1 w2) : Below B w w2 := h.trans (hb.mono (Nat.le_trans hB h.size))
theorem Below.alloc0 {a w : World} (h : Below a.heap.size a w) (o : Obj) : Below a.heap.size a (w.alloc o) := h.alloc h.size o
theorem Below.to_grown {w w' : World} (hb : Below w.heap.size w w') (row : Option Nat) : w.grownBy w' row := ⟨hb.os, hb.tape, hb.output, hb.size, fun k hk _ => hb.block k hk⟩
theorem own_step {w w' : World} {base : Nat} {e : TypeId} {size : Nat} {v : Value} {n : Nat} {xs : List Value} (h : w.ownsRow base e size v n xs) (hb : Below w.heap.size w w') : w'.ownsRow base e size v n xs :=
  h.kept (Below.to_grown hb none) (by cases hv : v.ownBlock <;> simp)
theorem cell_keep {w w' : World} {a : Addr} {v : Value} (hb : Below w.heap.size w w') (h : w.cell? a = some v) : w'.cell? a = some v := (hb.cell (World.block_lt_of_cell? w a h)).trans h
theorem own_reads {w : World} {base size n c : Nat} {e : TypeId} {A : Option Addr} {xs : List Value} (h : w.ownsRow base e size (.slice A n c) n xs) : Reads w w.heap.size size A n xs := Reads.of_own h

/-! ### one element of a slice that is read; one cell of a slice that is owned -/
theorem Reads.byte {w : World} {B k : Nat} {A : Option Addr} {bs : List UInt8} (h : Reads w B 1 A bs.length (byteCells bs)) (hk : k < bs.length) :
    ∃ b off x, A = some ⟨b, off, none⟩ ∧ b < B ∧ Hid (bs[k]? = some x) ∧ w.cell? ⟨b, off + k, none⟩ = some (.int .u8 ((x : UInt8).toNat : Int)) := by
  obtain ⟨b, off, e, hb, hc⟩ := h.2 (by omega)
  exact ⟨b, off, bs[k], e, hb, List.getElem?_eq_getElem hk, hc k _ (by simp [byteCells, byteV, hk])⟩
theorem Reads.int {w : World} {B k : Nat} {A : Option Addr} {xs : List Int} (h : Reads w B 1 A xs.length (intCells xs)) (hk : k < xs.length) :
    ∃ b off x, A = some ⟨b, off, none⟩ ∧ b < B ∧ Hid (xs[k]? = some x) ∧ w.cell? ⟨b, off + k, none⟩ = some (.int .i64 x) := by
  obtain ⟨b, off, e, hb, hc⟩ := h.2 (by omega)
  exact ⟨b, off, xs[k], e, hb, List.getElem?_eq_getElem hk, hc k _ (by simp [intCells, hk])⟩
theorem Reads.str {w : World} {B k : Nat} {A : Option Addr} {xs : List ByteArray} (h : Reads w B 1 A xs.length (strCells xs)) (hk : k < xs.length) :
    ∃ b off x, A = some ⟨b, off, none⟩ ∧ b < B ∧ Hid (xs[k]? = some x) ∧ w.cell? ⟨b, off + k, none⟩ = some (.string x) := by
  obtain ⟨b, off, e, hb, hc⟩ := h.2 (by omega)
  exact ⟨b, off, xs[k], e, hb, List.getElem?_eq_getElem hk, hc k _ (by simp [strCells, hk])⟩
theorem Reads.v {w : World} {B k : Nat} {A : Option Addr} {xs : List V} (h : Reads w B 3 A xs.length (valCells xs)) (hk : k < xs.length) :
    ∃ b off x, A = some ⟨b, off, none⟩ ∧ b < B ∧ Hid (xs[k]? = some x) ∧ w.cell? ⟨b, off + k * 3, none⟩ = some (.int .i64 (x : V).ty) ∧
      w.cell? ⟨b, off + k * 3 + 1, none⟩ = some (.int .i64 x.n) ∧ w.cell? ⟨b, off + k * 3 + 2, none⟩ = some (.string x.s) := by
  obtain ⟨b, off, e, hb, hc⟩ := h.2 (by omega)
  have hf := fun r (hr : r < 3) => flatMap_get_u V.enc 3 (fun _ => rfl) xs k r hr
  rw [List.getElem?_eq_getElem hk] at hf
  exact ⟨b, off, xs[k], e, hb, List.getElem?_eq_getElem hk, hc _ _ (hf 0 (by omega)), hc _ _ (hf 1 (by omega)), hc _ _ (hf 2 (by omega))⟩
theorem Reads.run {w : World} {B k : Nat} {A : Option Addr} {xs : List (V × Int)} (h : Reads w B 4 A xs.length (runCells xs)) (hk : k < xs.length) :
    ∃ b off x q, A = some ⟨b, off, none⟩ ∧ b < B ∧ Hid (xs[k]? = some (x, q)) ∧ w.cell? ⟨b, off + k * 4, none⟩ = some (.int .i64 (x : V).ty) ∧
      w.cell? ⟨b, off + k * 4 + 1, none⟩ = some (.int .i64 x.n) ∧ w.cell? ⟨b, off + k * 4 + 2, none⟩ = some (.string x.s) ∧ w.cell? ⟨b, off + k * 4 + 3, none⟩ = some (.int .i64 q) := by
  obtain ⟨b, off, e, hb, hc⟩ := h.2 (by omega)
  have hf := fun r (hr : r < 4) => flatMap_get_u runEnc 4 (fun _ => rfl) xs k r hr
  rw [List.getElem?_eq_getElem hk] at hf
  exact ⟨b, off, xs[k].1, xs[k].2, e, hb, List.getElem?_eq_getElem hk, hc _ _ (hf 0 (by omega)), hc _ _ (hf 1 (by omega)), hc _ _ (hf 2 (by omega)), hc _ _ (hf 3 (by omega))⟩
theorem Reads.row {w : World} {B k : Nat} {A : Option Addr} {xs : List RowV} (h : Reads w B 2 A xs.length (xs.flatMap RowV.enc)) (hk : k < xs.length) :
    ∃ b off x, A = some ⟨b, off, none⟩ ∧ b < B ∧ Hid (xs[k]? = some x) ∧ w.cell? ⟨b, off + k * 2, none⟩ = some (.int .i64 (x : RowV).id) ∧
      w.cell? ⟨b, off + k * 2 + 1, none⟩ = some (.slice x.A x.l.length x.c) := by
  obtain ⟨b, off, e, hb, hc⟩ := h.2 (by omega)
  have hf := fun r (hr : r < 2) => flatMap_get_u RowV.enc 2 (fun _ => rfl) xs k r hr
  rw [List.getElem?_eq_getElem hk] at hf
  exact ⟨b, off, xs[k], e, hb, List.getElem?_eq_getElem hk, hc _ _ (hf 0 (by omega)), hc _ _ (hf 1 (by omega))⟩
theorem own_cell {w : World} {base g n cap size j : Nat} {e : TypeId} {xs : List Value} (h : w.ownsRow base e size (.slice (some ⟨g, 0, none⟩) n cap) n xs) (hj : j < n * size) : ∃ u, w.cell? ⟨g, j, none⟩ = some u := by
  have hl : j < xs.length := by rw [h.1]; exact hj
  exact ⟨xs[j], (h.cellAt j hj).trans (List.getElem?_eq_getElem hl)⟩

/-! ### opening an argument -/
section
variable {H : Type} {enc : TypeId × Value → H} {P : Program} {w : World}

theorem addr_form {w : World} {a : Addr} {v : Value} (h : w.cell? a = some v) : a = ⟨a.block, a.off, none⟩ := by
  obtain ⟨b, o, s⟩ := a
  cases s with
  | none => rfl
  | some s => simp [World.cell?] at h; split at h <;> simp_all
theorem add_form (b off j : Nat) : (⟨b, off, none⟩ : Addr).add j = ⟨b, off + j, none⟩ := by
  unfold Addr.add
  split <;> simp_all

theorem open_slice_any {α : Type} {r : Reach} {b0 : Nat} {t e : TypeId} {v : Value} {d : DataW H} {ps : List MemPlace} {spare : Nat → Bool} {held : Bool} (ht : P.underlying t = some (.slice e)) (hval : Value.okWide P w r b0 t v) (h : DataW.Trod enc P w 0 spare held t v d ps)
    (s : Nat) (hs : P.cellsOf e = s) (hs0 : 0 < s) (en : α → List Value) (hen : ∀ x, (en x).length = s) (Q : α → Prop)
    (hel : ∀ (fuel : Nat) (cs : List Value) (y : DataW H × List MemPlace), cs.length = s → DataW.trod enc P w 0 spare held fuel e cs = some y → ∃ x, cs = en x ∧ Q x) :
    ∃ (A : Option Addr) (n c : Nat) (xs : List α), v = .slice A n c ∧ n ≤ c ∧ c ≤ maxLen ∧ xs.length = n ∧ Reads w w.heap.size s A n (xs.flatMap en) ∧ ∀ x ∈ xs, Q x := by
  subst hs
  obtain ⟨a0, len0, cap0, rfl⟩ := okWide_slice ht hval
  obtain ⟨fuel, hf⟩ := h
  rcases Go.Deep.open_slice ht hf with ⟨hcs, _⟩ | ⟨a, len, cap, m, n, D, Pl, hcs, _, hl, hm, hmm, _, hi⟩
  · have e0 : Value.slice a0 len0 cap0 = .slice none 0 0 := by simpa [Value.cells] using hcs
    injection e0 with e1 e2 e3
    subst e1; subst e2; subst e3
    exact ⟨none, 0, 0, [], rfl, Nat.le_refl _, Nat.zero_le _, rfl, Reads.none_ _ _ _ _, by simp⟩
  · have e0 : Value.slice a0 len0 cap0 = .slice (some a) len cap := by simpa [Value.cells] using hcs
    injection e0 with e1 e2 e3
    subst e1; subst e2; subst e3
    have hlm : len0 ≤ m := by rw [hmm]; split <;> omega
    have key : ∀ i, i < len0 → ∃ x, Q x ∧ ∀ j, j < P.cellsOf e → w.cell? (a.add (i * P.cellsOf e + j)) = (en x)[j]? := by
      intro i hil
      obtain ⟨cs', hc, ht'⟩ := hi i (by omega)
      obtain ⟨_, hcl, hat⟩ := World.cells?_some hc
      obtain ⟨x, hx, hq⟩ := hel _ _ _ hcl ht'
      subst hx
      refine ⟨x, hq, fun j hj => ?_⟩
      rw [← hat j hj, Go.Deep.add_add]
    obtain ⟨xs, hxl, hxr⟩ := exists_list len0 (fun i x => Q x ∧ ∀ j, j < P.cellsOf e → w.cell? (a.add (i * P.cellsOf e + j)) = (en x)[j]?) key
    refine ⟨some a, len0, cap0, xs, rfl, hl, hm, hxl, ⟨by rw [flatMap_length_u en _ hen, hxl], fun hn => ?_⟩, fun x hx => ?_⟩
    · have h0 : ∃ u, w.cell? a = some u := by
        have hx0 : xs[0]? = some (xs[0]'(by omega)) := List.getElem?_eq_getElem (by omega)
        have h1 := (hxr 0 _ hx0).2 0 hs0
        have ha : a.add (0 * P.cellsOf e + 0) = a := by simp [Addr.add]
        rw [ha] at h1
        exact ⟨_, h1.trans (List.getElem?_eq_getElem (by rw [hen]; exact hs0))⟩
      obtain ⟨u0, hu0⟩ := h0
      have ha := addr_form hu0
      refine ⟨a.block, a.off, by rw [← ha], World.block_lt_of_cell? w a hu0, fun j u hu => ?_⟩
      have hj : j < xs.length * P.cellsOf e := by
        have := (List.getElem?_eq_some_iff.1 hu).1
        rwa [flatMap_length_u en _ hen] at this
      have hdm : j = j / P.cellsOf e * P.cellsOf e + j % P.cellsOf e := by rw [Nat.mul_comm]; exact (Nat.div_add_mod _ _).symm
      have hmod : j % P.cellsOf e < P.cellsOf e := Nat.mod_lt _ hs0
      have hdl : j / P.cellsOf e < xs.length := Nat.div_lt_of_lt_mul (by rw [Nat.mul_comm]; exact hj)
      rw [hdm, flatMap_get_u en _ hen _ _ _ hmod, List.getElem?_eq_getElem hdl] at hu
      have h1 := (hxr _ _ (List.getElem?_eq_getElem hdl)).2 _ hmod
      rw [← hdm] at h1
      have ha2 : a.add j = ⟨a.block, a.off + j, none⟩ := by rw [ha]; exact add_form _ _ _
      rw [ha2] at h1
      exact h1.trans hu
    · obtain ⟨i, hi1, hi2⟩ := List.getElem_of_mem hx
      exact (hxr i x (by rw [← hi2]; exact List.getElem?_eq_getElem hi1)).1

theorem open_slice_trod {α : Type} {t e : TypeId} {fuel : Nat} {cs : List Value} {y : DataW H × List MemPlace} {spare : Nat → Bool} {held : Bool} (ht : P.underlying t = some (.slice e)) (hf : DataW.trod enc P w 0 spare held fuel t cs = some y)
    (s : Nat) (hs : P.cellsOf e = s) (hs0 : 0 < s) (en : α → List Value) (hen : ∀ x, (en x).length = s) (Q : α → Prop)
    (hel : ∀ (fuel : Nat) (cs : List Value) (y : DataW H × List MemPlace), cs.length = s → DataW.trod enc P w 0 spare held fuel e cs = some y → ∃ x, cs = en x ∧ Q x) :
    ∃ (A : Option Addr) (n c : Nat) (xs : List α), cs = [.slice A n c] ∧ n ≤ c ∧ c ≤ maxLen ∧ xs.length = n ∧ Reads w w.heap.size s A n (xs.flatMap en) ∧ ∀ x ∈ xs, Q x := by
  subst hs
  rcases Go.Deep.open_slice ht hf with ⟨hcs, _⟩ | ⟨a, len, cap, m, n, D, Pl, hcs, _, hl, hm, hmm, _, hi⟩
  · subst hcs
    exact ⟨none, 0, 0, [], rfl, Nat.le_refl _, Nat.zero_le _, rfl, Reads.none_ _ _ _ _, by simp⟩
  · subst hcs
    have hlm : len ≤ m := by rw [hmm]; split <;> omega
    have key : ∀ i, i < len → ∃ x, Q x ∧ ∀ j, j < P.cellsOf e → w.cell? (a.add (i * P.cellsOf e + j)) = (en x)[j]? := by
      intro i hil
      obtain ⟨cs', hc, ht'⟩ := hi i (by omega)
      obtain ⟨_, hcl, hat⟩ := World.cells?_some hc
      obtain ⟨x, hx, hq⟩ := hel _ _ _ hcl ht'
      subst hx
      refine ⟨x, hq, fun j hj => ?_⟩
      rw [← hat j hj, Go.Deep.add_add]
    obtain ⟨xs, hxl, hxr⟩ := exists_list len (fun i x => Q x ∧ ∀ j, j < P.cellsOf e → w.cell? (a.add (i * P.cellsOf e + j)) = (en x)[j]?) key
    refine ⟨some a, len, cap, xs, rfl, hl, hm, hxl, ⟨by rw [flatMap_length_u en _ hen, hxl], fun hn => ?_⟩, fun x hx => ?_⟩
    · have h0 : ∃ u, w.cell? a = some u := by
        have hx0 : xs[0]? = some (xs[0]'(by omega)) := List.getElem?_eq_getElem (by omega)
        have h1 := (hxr 0 _ hx0).2 0 hs0
        have ha : a.add (0 * P.cellsOf e + 0) = a := by simp [Addr.add]
        rw [ha] at h1
        exact ⟨_, h1.trans (List.getElem?_eq_getElem (by rw [hen]; exact hs0))⟩
      obtain ⟨u0, hu0⟩ := h0
      have ha := addr_form hu0
      refine ⟨a.block, a.off, by rw [← ha], World.block_lt_of_cell? w a hu0, fun j u hu => ?_⟩
      have hj : j < xs.length * P.cellsOf e := by
        have := (List.getElem?_eq_some_iff.1 hu).1
        rwa [flatMap_length_u en _ hen] at this
      have hdm : j = j / P.cellsOf e * P.cellsOf e + j % P.cellsOf e := by rw [Nat.mul_comm]; exact (Nat.div_add_mod _ _).symm
      have hmod : j % P.cellsOf e < P.cellsOf e := Nat.mod_lt _ hs0
      have hdl : j / P.cellsOf e < xs.length := Nat.div_lt_of_lt_mul (by rw [Nat.mul_comm]; exact hj)
      rw [hdm, flatMap_get_u en _ hen _ _ _ hmod, List.getElem?_eq_getElem hdl] at hu
      have h1 := (hxr _ _ (List.getElem?_eq_getElem hdl)).2 _ hmod
      rw [← hdm] at h1
      have ha2 : a.add j = ⟨a.block, a.off + j, none⟩ := by rw [ha]; exact add_form _ _ _
      rw [ha2] at h1
      exact h1.trans hu
    · obtain ⟨i, hi1, hi2⟩ := List.getElem_of_mem hx
      exact (hxr i x (by rw [← hi2]; exact List.getElem?_eq_getElem hi1)).1

theorem flatMap_one {α : Type} (f : α → Value) (xs : List α) : xs.flatMap (fun x => [f x]) = xs.map f := by
  induction xs with
  | nil => rfl
  | cons x xs ih => simp [ih]

theorem u8_of_int (n : Int) (h : (Lit.int .u8 n).wf = true) : ∃ b : UInt8, n = (b.toNat : Int) := by
  have h' : 0 ≤ n ∧ n ≤ 255 := by simpa [Lit.wf, IntKind.min, IntKind.max, IntKind.signed, IntKind.bits] using h
  refine ⟨UInt8.ofNat n.toNat, ?_⟩
  rw [UInt8.toNat_ofNat']
  have : n.toNat % 2 ^ 8 = n.toNat := Nat.mod_eq_of_lt (by omega)
  omega

theorem open_bytes {r : Reach} {b0 : Nat} {t e : TypeId} {v : Value} {d : DataW H} {ps : List MemPlace} {spare : Nat → Bool} {held : Bool} (ht : P.underlying t = some (.slice e)) (he : P.underlying e = some (.int .u8)) (hs : P.cellsOf e = 1) (hval : Value.okWide P w r b0 t v) (h : DataW.Trod enc P w 0 spare held t v d ps) :
    ∃ (A : Option Addr) (n c : Nat) (bs : List UInt8), v = .slice A n c ∧ n ≤ c ∧ c ≤ maxLen ∧ bs.length = n ∧ Reads w w.heap.size 1 A n (byteCells bs) := by
  obtain ⟨A, n, c, xs, h1, h2, h3, h4, h5, _⟩ := open_slice_any ht hval h 1 hs (by omega) (fun b : UInt8 => [byteV b]) (fun _ => rfl) (fun _ => True) (by
    intro fuel cs y hl hy
    obtain ⟨n', rfl, _, hw⟩ := DataW.trod_int he hy
    obtain ⟨b, rfl⟩ := u8_of_int n' hw
    exact ⟨b, rfl, trivial⟩)
  rw [flatMap_one] at h5
  exact ⟨A, n, c, xs, h1, h2, h3, h4, h5⟩

theorem open_ints64 {r : Reach} {b0 : Nat} {t e : TypeId} {v : Value} {d : DataW H} {ps : List MemPlace} {spare : Nat → Bool} {held : Bool} (ht : P.underlying t = some (.slice e)) (he : P.underlying e = some (.int .i64)) (hs : P.cellsOf e = 1) (hval : Value.okWide P w r b0 t v) (h : DataW.Trod enc P w 0 spare held t v d ps) :
    ∃ (A : Option Addr) (n c : Nat) (xs : List Int), v = .slice A n c ∧ n ≤ c ∧ c ≤ maxLen ∧ xs.length = n ∧ Reads w w.heap.size 1 A n (intCells xs) ∧ ∀ x ∈ xs, I64 x := by
  obtain ⟨A, n, c, xs, h1, h2, h3, h4, h5, h6⟩ := open_slice_any ht hval h 1 hs (by omega) (fun x : Int => [.int .i64 x]) (fun _ => rfl) I64 (by
    intro fuel cs y hl hy
    obtain ⟨n', rfl, _, hw⟩ := DataW.trod_int he hy
    exact ⟨n', rfl, I64_of_wf hw⟩)
  rw [flatMap_one] at h5
  exact ⟨A, n, c, xs, h1, h2, h3, h4, h5, h6⟩

theorem open_val_cells {t fi fs : TypeId} {f0 f1 f2 : Field} {fuel : Nat} {cs : List Value} {y : DataW H × List MemPlace} {spare : Nat → Bool} {held : Bool} (ht : P.underlying t = some (.struct #[f0, f1, f2])) (hC : P.cellsOf t = 3)
    (o0 : f0.offset = 0) (o1 : f1.offset = 1) (o2 : f2.offset = 2) (t0 : f0.type = fi) (t1 : f1.type = fi) (t2 : f2.type = fs) (hi : P.underlying fi = some (.int .i64)) (hsr : P.underlying fs = some .string) (ci : P.cellsOf fi = 1) (cs1 : P.cellsOf fs = 1)
    (h : DataW.trod enc P w 0 spare held fuel t cs = some y) : ∃ v : V, cs = v.enc ∧ v.ok := by
  obtain ⟨xs, n, _, _, hl, hxl, hg⟩ := DataW.trod_struct ht h
  rw [hC] at hl
  match cs, hl with
  | [c0, c1, c2], _ =>
    have g0 := hg 0 f0 rfl
    have g1 := hg 1 f1 rfl
    have g2 := hg 2 f2 rfl
    rw [o0, t0, ci] at g0
    rw [o1, t1, ci] at g1
    rw [o2, t2, cs1] at g2
    have hx : xs.length = 3 := by simpa using hxl
    rw [List.getElem?_eq_getElem (by omega)] at g0 g1 g2
    obtain ⟨n0, e0, _, w0⟩ := DataW.trod_int hi g0
    obtain ⟨n1, e1, _, w1⟩ := DataW.trod_int hi g1
    obtain ⟨s2, e2, _, w2⟩ := DataW.trod_string hsr g2
    simp at e0 e1 e2
    subst e0; subst e1; subst e2
    exact ⟨⟨n0, n1, s2⟩, rfl, I64_of_wf w0, I64_of_wf w1, w2⟩

theorem cells_agg (cs : Array Value) : (Value.agg cs).cells = cs := rfl

theorem open_val {r : Reach} {b0 : Nat} {t fi fs : TypeId} {f0 f1 f2 : Field} {v : Value} {d : DataW H} {ps : List MemPlace} {spare : Nat → Bool} {held : Bool} (ht : P.underlying t = some (.struct #[f0, f1, f2])) (hC : P.cellsOf t = 3)
    (o0 : f0.offset = 0) (o1 : f1.offset = 1) (o2 : f2.offset = 2) (t0 : f0.type = fi) (t1 : f1.type = fi) (t2 : f2.type = fs) (hi : P.underlying fi = some (.int .i64)) (hsr : P.underlying fs = some .string) (ci : P.cellsOf fi = 1) (cs1 : P.cellsOf fs = 1)
    (hval : Value.okWide P w r b0 t v) (h : DataW.Trod enc P w 0 spare held t v d ps) : ∃ x : V, v = x.val ∧ x.ok := by
  obtain ⟨cs, rfl, _⟩ := okWide_struct ht hval
  obtain ⟨fuel, hf⟩ := h
  obtain ⟨x, hx, hok⟩ := open_val_cells ht hC o0 o1 o2 t0 t1 t2 hi hsr ci cs1 hf
  refine ⟨x, ?_, hok⟩
  have : cs = x.enc.toArray := by
    apply Array.toList_inj.1
    simpa [Value.cells] using hx
  subst this
  rfl

theorem open_run_cells {t tv fi fs : TypeId} {g0 g1 f0 f1 f2 : Field} {fuel : Nat} {cs : List Value} {y : DataW H × List MemPlace} {spare : Nat → Bool} {held : Bool} (hrt : P.underlying t = some (.struct #[g0, g1])) (hrC : P.cellsOf t = 4)
    (p0 : g0.offset = 0) (p1 : g1.offset = 3) (q0 : g0.type = tv) (q1 : g1.type = fi)
    (ht : P.underlying tv = some (.struct #[f0, f1, f2])) (hC : P.cellsOf tv = 3)
    (o0 : f0.offset = 0) (o1 : f1.offset = 1) (o2 : f2.offset = 2) (t0 : f0.type = fi) (t1 : f1.type = fi) (t2 : f2.type = fs) (hi : P.underlying fi = some (.int .i64)) (hsr : P.underlying fs = some .string) (ci : P.cellsOf fi = 1) (cs1 : P.cellsOf fs = 1)
    (h : DataW.trod enc P w 0 spare held fuel t cs = some y) : ∃ r : V × Int, cs = runEnc r ∧ runOk r := by
  obtain ⟨xs, n, _, _, hl, hxl, hg⟩ := DataW.trod_struct hrt h
  rw [hrC] at hl
  match cs, hl with
  | [c0, c1, c2, c3], _ =>
    have h0 := hg 0 g0 rfl
    have h1 := hg 1 g1 rfl
    rw [p0, q0, hC] at h0
    rw [p1, q1, ci] at h1
    have hx : xs.length = 2 := by simpa using hxl
    rw [List.getElem?_eq_getElem (by omega)] at h0 h1
    obtain ⟨v, hv, hvo⟩ := open_val_cells ht hC o0 o1 o2 t0 t1 t2 hi hsr ci cs1 h0
    obtain ⟨k, e1, _, w1⟩ := DataW.trod_int hi h1
    simp [V.enc] at e1 hv
    obtain ⟨rfl, rfl, rfl⟩ := hv
    subst e1
    exact ⟨(v, k), rfl, hvo, I64_of_wf w1⟩

theorem open_row_cells {t ts tv fi fs : TypeId} {g0 g1 f0 f1 f2 : Field} {fuel : Nat} {cs : List Value} {y : DataW H × List MemPlace} {spare : Nat → Bool} {held : Bool} (hrt : P.underlying t = some (.struct #[g0, g1])) (hrC : P.cellsOf t = 2)
    (p0 : g0.offset = 0) (p1 : g1.offset = 1) (q0 : g0.type = fi) (q1 : g1.type = ts) (hts : P.underlying ts = some (.slice tv)) (hsC : P.cellsOf ts = 1)
    (ht : P.underlying tv = some (.struct #[f0, f1, f2])) (hC : P.cellsOf tv = 3)
    (o0 : f0.offset = 0) (o1 : f1.offset = 1) (o2 : f2.offset = 2) (t0 : f0.type = fi) (t1 : f1.type = fi) (t2 : f2.type = fs) (hi : P.underlying fi = some (.int .i64)) (hsr : P.underlying fs = some .string) (ci : P.cellsOf fi = 1) (cs1 : P.cellsOf fs = 1)
    (h : DataW.trod enc P w 0 spare held fuel t cs = some y) : ∃ r : RowV, cs = r.enc ∧ r.ok w := by
  obtain ⟨xs, n, _, _, hl, hxl, hg⟩ := DataW.trod_struct hrt h
  rw [hrC] at hl
  match cs, hl with
  | [c0, c1], _ =>
    have h0 := hg 0 g0 rfl
    have h1 := hg 1 g1 rfl
    rw [p0, q0, ci] at h0
    rw [p1, q1, hsC] at h1
    have hx : xs.length = 2 := by simpa using hxl
    rw [List.getElem?_eq_getElem (by omega)] at h0 h1
    obtain ⟨k, e1, _, w1⟩ := DataW.trod_int hi h0
    obtain ⟨A, n', c, vs, e2, hnc, hcm, hvn, hr, hq⟩ := open_slice_trod hts h1 3 hC (by omega) V.enc (fun _ => rfl) V.ok (fun _ _ _ _ hy => open_val_cells ht hC o0 o1 o2 t0 t1 t2 hi hsr ci cs1 hy)
    subst hvn
    simp at e1 e2
    subst e1; subst e2
    exact ⟨⟨k, A, c, vs⟩, rfl, I64_of_wf w1, hnc, hcm, hr, hq⟩

theorem open_row {r : Reach} {b0 : Nat} {t ts tv fi fs : TypeId} {g0 g1 f0 f1 f2 : Field} {v : Value} {d : DataW H} {ps : List MemPlace} {spare : Nat → Bool} {held : Bool} (hrt : P.underlying t = some (.struct #[g0, g1])) (hrC : P.cellsOf t = 2)
    (p0 : g0.offset = 0) (p1 : g1.offset = 1) (q0 : g0.type = fi) (q1 : g1.type = ts) (hsC : P.cellsOf ts = 1) (hts : P.underlying ts = some (.slice tv)) (hC : P.cellsOf tv = 3)
    (ht : P.underlying tv = some (.struct #[f0, f1, f2]))
    (o0 : f0.offset = 0) (o1 : f1.offset = 1) (o2 : f2.offset = 2) (t0 : f0.type = fi) (t1 : f1.type = fi) (t2 : f2.type = fs) (hi : P.underlying fi = some (.int .i64)) (hsr : P.underlying fs = some .string) (ci : P.cellsOf fi = 1) (cs1 : P.cellsOf fs = 1)
    (hval : Value.okWide P w r b0 t v) (h : DataW.Trod enc P w 0 spare held t v d ps) : ∃ x : RowV, v = x.val ∧ x.ok w := by
  obtain ⟨cs, rfl, _⟩ := okWide_struct hrt hval
  obtain ⟨fuel, hf⟩ := h
  obtain ⟨x, hx, hok⟩ := open_row_cells hrt hrC p0 p1 q0 q1 hts hsC ht hC o0 o1 o2 t0 t1 t2 hi hsr ci cs1 hf
  refine ⟨x, ?_, hok⟩
  have : cs = x.enc.toArray := by
    apply Array.toList_inj.1
    simpa [Value.cells] using hx
  subst this
  rfl
end

/-! ### closing a law's row -/
section
variable {H : Type} {enc : TypeId × Value → H} {P : Program}
theorem trodAll_keep (hl : laidOutB P = true) {W W' : World} (hb : Below W.heap.size W W') :
    ∀ (ts : List TypeId) (vs : List Value) (ds : List (DataW H)) (ps : List MemPlace), (∀ t ∈ ts, P.readableRec t = true ∧ t < P.types.size) → (∀ x ∈ ps, x.block < W.heap.size) →
      DataW.TrodAll enc P W 0 (fun _ => true) true ts vs ds ps → DataW.TrodAll enc P W' 0 (fun b => decide (b < W.heap.size)) true ts vs ds ps := by
  intro ts
  induction ts with
  | nil =>
    intro vs ds ps _ _ h
    obtain ⟨rfl, rfl, rfl⟩ := trodAll_nil h
    exact trodAll_mk0
  | cons t ts ih =>
    intro vs ds ps hr hlt h
    obtain ⟨v, vs', d, ds', p, q, rfl, rfl, rfl, h0, h1⟩ := trodAll_cons h
    exact trodAll_cons_mk (Below.trod hl (hr t (by simp)).1 (hr t (by simp)).2 h0 hb (fun x hx => hlt x (by simp [hx]))) (ih _ _ _ (fun t ht => hr t (by simp [ht])) (fun x hx => hlt x (by simp [hx])) h1)

theorem law_post {f : Func} {s : ChangeSpec} {tb : TypeId} {W W' : World} {args : Array Value} {ds gs : List (DataW H)} {before : List MemPlace} (hl : laidOutB P = true) (hr : ∀ t ∈ f.params.toList, P.readableRec t = true ∧ t < P.types.size)
    (hrt : f.resultTypes = #[tb]) (htb : P.underlying tb = some .bool) (hvars : s.vars = [])
    (hW : DataW.Whole enc P f.params.toList s.vars false W args.toList ds gs before) (hb : Below W.heap.size W W') (hs : s.fn H (ds ++ gs) = { results := [.lit (.bool true)], args := ds }) :
    s.post enc P f false true false false W args (.bool true) W' := by
  have hlt := hW.lt
  have hW' := hW
  obtain ⟨p, q, hA, hV, rfl, _, _⟩ := hW
  rw [hvars] at hV
  obtain ⟨rfl, rfl⟩ := trodVars_none hV
  refine ⟨ds, [], p ++ [], [], p, [], hW', ?_, ?_, ?_, World.keptBut_mono (fun x hx => ⟨hx, .inr (.inl (by simpa using hx))⟩) (hb.frame (· ∈ p ++ [])), fun h => by cases h⟩
  · rw [hs, hrt]
    exact trodAll_mk1 (shut_bool htb true)
  · rw [hs]
    exact trodAll_keep hl hb _ _ _ _ hr (fun x hx => hlt x (by simp [hx])) hA
  · rw [hs, hvars]
    rfl
end

theorem below_drewN {B : Nat} {a w : World} (h : Below B a w) (n : Nat) : Below B a (w.drewN n) := ⟨h.os, h.tape, h.output, h.size, h.block⟩
theorem own : ownKnob Tryz.prog.godebug = none := by kernel_rfl
theorem laidOut : laidOutB Tryz.prog = true := by kernel_rfl

end Go.Proofs.YtgpimlmolcjeoaaGreatDoor
