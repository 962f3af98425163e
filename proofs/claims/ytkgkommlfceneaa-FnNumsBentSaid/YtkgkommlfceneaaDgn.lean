/-
  Contract of DrawGetNum.
-/
import Derived.Test.YtkgkommlfceneaaBent
namespace Go.Proofs.Ytkgkommlfceneaa
open Go.RowKit
set_option linter.unusedVariables false
set_option maxRecDepth 100000

theorem reads_of_heap {w : World} {b : Nat} {t : TypeId} {xs : List UInt8} (h : w.heap[b]? = some (.cells (byteCells xs).toArray t (0, 0))) : Reads w w.heap.size 1 (some ⟨b, 0, none⟩) xs.length (byteCells xs) := by
  have hlt : b < w.heap.size := by
    rcases Nat.lt_or_ge b w.heap.size with h1 | h1
    · exact h1
    · rw [Array.getElem?_eq_none h1] at h; cases h
  refine ⟨by simp [byteCells], fun _ => ⟨b, 0, rfl, hlt, fun j u hj => ?_⟩⟩
  have h2 := World.news_of_block (cs := (byteCells xs).toArray) (t := t) (fr := (0, 0)) h j u (by simpa using hj)
  simpa [add_form] using h2
theorem own_lower' {w : World} {base base' : Nat} {e : TypeId} {size : Nat} {v : Value} {n : Nat} {xs : List Value} (h : w.ownsRow base e size v n xs) (hb : base' ≤ base) : w.ownsRow base' e size v n xs :=
  ⟨h.1, h.2.imp id fun ⟨g, cap, cur, h1, h2, h3⟩ => ⟨g, cap, cur, h1, Nat.le_trans hb h2, h3⟩⟩
theorem heap_step {w : World} {b : Nat} {o x : Obj} (h : w.heap[b]? = some x) : (w.alloc o).heap[b]? = some x := by
  have hlt : b < w.heap.size := by
    rcases Nat.lt_or_ge b w.heap.size with h1 | h1
    · exact h1
    · rw [Array.getElem?_eq_none h1] at h; cases h
  exact (((Below.refl w.heap.size w).alloc (Nat.le_refl _) o).block b hlt).trans h
def lit0 : List UInt8 := [128, 0]
def lit1 : List UInt8 := [255, 255, 255, 255, 15]
def lit2 : List UInt8 := [128, 168, 214, 185, 7]
def lit3 : List UInt8 := [129, 168, 214, 185, 7]
def lit4 : List UInt8 := [128, 128, 128, 128, 128, 1]
def lit5 : List UInt8 := [129, 128]
def litW0 (w : World) (t : TypeId) : World := w.alloc (.cells (byteCells lit0).toArray t)
def litW1 (w : World) (t : TypeId) : World := (litW0 w t).alloc (.cells (byteCells lit1).toArray t)
def litW2 (w : World) (t : TypeId) : World := (litW1 w t).alloc (.cells (byteCells lit2).toArray t)
def litW3 (w : World) (t : TypeId) : World := (litW2 w t).alloc (.cells (byteCells lit3).toArray t)
def litW4 (w : World) (t : TypeId) : World := (litW3 w t).alloc (.cells (byteCells lit4).toArray t)
def litW5 (w : World) (t : TypeId) : World := (litW4 w t).alloc (.cells (byteCells lit5).toArray t)
def litRow (n : Nat) : List Value := [.slice (some ⟨n, 0, none⟩) 2 2, .slice (some ⟨n + 1, 0, none⟩) 5 5, .slice (some ⟨n + 1 + 1, 0, none⟩) 5 5, .slice (some ⟨n + 1 + 1 + 1, 0, none⟩) 5 5, .slice (some ⟨n + 1 + 1 + 1 + 1, 0, none⟩) 6 6, .slice (some ⟨n + 1 + 1 + 1 + 1 + 1, 0, none⟩) 2 2]
def litW6 (w : World) (t t' : TypeId) : World := (litW5 w t).alloc (.cells (litRow w.heap.size).toArray t')
theorem litW0_size (w : World) (t : TypeId) : (litW0 w t).heap.size = w.heap.size + 1 := by simp [litW0]
theorem litW1_size (w : World) (t : TypeId) : (litW1 w t).heap.size = w.heap.size + 2 := by simp [litW1, litW0_size]
theorem litW2_size (w : World) (t : TypeId) : (litW2 w t).heap.size = w.heap.size + 3 := by simp [litW2, litW1_size]
theorem litW3_size (w : World) (t : TypeId) : (litW3 w t).heap.size = w.heap.size + 4 := by simp [litW3, litW2_size]
theorem litW4_size (w : World) (t : TypeId) : (litW4 w t).heap.size = w.heap.size + 5 := by simp [litW4, litW3_size]
theorem litW5_size (w : World) (t : TypeId) : (litW5 w t).heap.size = w.heap.size + 6 := by simp [litW5, litW4_size]
theorem litW6_size (w : World) (t t' : TypeId) : (litW6 w t t').heap.size = w.heap.size + 7 := by simp [litW6, litW5_size]
theorem litW_cell (w : World) (t t' : TypeId) {x : Nat} {v : Value} (h : (litRow w.heap.size)[x]? = some v) : (litW6 w t t').cell? ⟨w.heap.size + 6, x, none⟩ = some v := by
  have h2 := World.news_of_block (cs := (litRow w.heap.size).toArray) (t := t') (fr := (0, 0)) (heap_alloc_new (litW5 w t) (.cells (litRow w.heap.size).toArray t')) x v (by simpa using h)
  rw [litW5_size] at h2
  show ((litW5 w t).alloc (.cells (litRow w.heap.size).toArray t')).cell? _ = _
  simpa [add_form] using h2
theorem litW_facts (w : World) (t t' : TypeId) (x : Nat) (hx : x < 6) : ∃ ls : List UInt8, ls.length ≤ 6 ∧ (litW6 w t t').heap[w.heap.size + x]? = some (.cells (byteCells ls).toArray t (0, 0)) ∧ (litW6 w t t').cell? ⟨w.heap.size + 6, x, none⟩ = some (.slice (some ⟨w.heap.size + x, 0, none⟩) ls.length ls.length) := by
  rcases (show x = 0 ∨ x = 1 ∨ x = 2 ∨ x = 3 ∨ x = 4 ∨ x = 5 by omega) with rfl | rfl | rfl | rfl | rfl | rfl
  · exact ⟨lit0, by decide, heap_step (heap_step (heap_step (heap_step (heap_step (heap_step (heap_alloc_new w _)))))), litW_cell w t t' rfl⟩
  · refine ⟨lit1, by decide, ?_, litW_cell w t t' rfl⟩
    rw [← litW0_size w t]
    exact heap_step (heap_step (heap_step (heap_step (heap_step (heap_alloc_new (litW0 w t) _)))))
  · refine ⟨lit2, by decide, ?_, litW_cell w t t' rfl⟩
    rw [← litW1_size w t]
    exact heap_step (heap_step (heap_step (heap_step (heap_alloc_new (litW1 w t) _))))
  · refine ⟨lit3, by decide, ?_, litW_cell w t t' rfl⟩
    rw [← litW2_size w t]
    exact heap_step (heap_step (heap_step (heap_alloc_new (litW2 w t) _)))
  · refine ⟨lit4, by decide, ?_, litW_cell w t t' rfl⟩
    rw [← litW3_size w t]
    exact heap_step (heap_step (heap_alloc_new (litW3 w t) _))
  · refine ⟨lit5, by decide, ?_, litW_cell w t t' rfl⟩
    rw [← litW4_size w t]
    exact heap_step (heap_alloc_new (litW4 w t) _)
theorem litW_below {w w4 : World} {B : Nat} (h : Below B w w4) (hB : B ≤ w4.heap.size) (t t' : TypeId) : Below B w (litW6 w4 t t') := by
  have h0 : Below B w (litW0 w4 t) := h.alloc hB _
  have s0 := litW0_size w4 t
  have h1 : Below B w (litW1 w4 t) := h0.alloc (by omega) _
  have s1 := litW1_size w4 t
  have h2 : Below B w (litW2 w4 t) := h1.alloc (by omega) _
  have s2 := litW2_size w4 t
  have h3 : Below B w (litW3 w4 t) := h2.alloc (by omega) _
  have s3 := litW3_size w4 t
  have h4 : Below B w (litW4 w4 t) := h3.alloc (by omega) _
  have s4 := litW4_size w4 t
  have h5 : Below B w (litW5 w4 t) := h4.alloc (by omega) _
  have s5 := litW5_size w4 t
  exact h5.alloc (by omega) _
set_option maxHeartbeats 3200000 in
theorem DrawGetNum_any (w : World) (A : Option Addr) (c : Nat) (cs : List UInt8) (hr : Reads w w.heap.size 1 A cs.length (byteCells cs)) (hl : cs.length ≤ 1099511627776) :
    Calls Try.prog 53 #[.slice A cs.length c] w fun e w' => ∃ (A' : Option Addr) (c' : Nat) (bs : List UInt8) (n : Int), e = .returned (.tuple #[.slice A' bs.length c', .int .i64 n]) ∧ bs.length ≤ 1000 ∧ I64 n ∧ w'.ownsRow w.heap.size 5 1 (.slice A' bs.length c') bs.length (byteCells bs) ∧ Below w.heap.size w w' := by
  obtain ⟨i0, hi0, hz0, hz1, hz2⟩ := info_parts info_Byte
  -- the end: where the bytes are read
  go_enter Try.func53, Try.ntmps53
  go_wp2_with fail
  refine (l1New_any _ _ _ _ hr hl).mono ?_
  rintro e w1 ⟨p, rfl, hp, hc1, hb1⟩
  go_wp2_with fail
  refine (l1Below_any _ p hc1 3 (by omega) (by omega)).mono ?_
  rintro e w2 ⟨k, rfl, hk, hc2, hg2⟩
  have hb2 := hb1.grown hg2 hb1.size (fun q hq => by have := Option.some.inj hq; omega)
  go_wp2_with fail
  refine (l1Bytes_any _ p hc2 k (by omega)).mono ?_
  rintro e w3 ⟨A3, c3, bs, rfl, hbl, hown3, hc3, hg3⟩
  have hb3 := hb2.grown hg3 hb2.size (fun q hq => by have := Option.some.inj hq; omega)
  have hbl2 : bs.length ≤ 2 := by omega
  have hp2 := hc2.lt
  clear hbl
  have hbase := hb2.size
  go_wp2_with fail
  refine (l1Once_any _ p hc3 4 (by omega) (by omega)).mono ?_
  rintro e w4 ⟨b, rfl, hc4, hg4⟩
  have hb4 := hb3.grown hg4 hb3.size (fun q hq => by have := Option.some.inj hq; omega)
  have hown4 := own_cur hown3 hg4 hp2
  have hz24 : w2.heap.size ≤ w4.heap.size := Nat.le_trans hg3.size hg4.size
  clear hr hc1 hb1 hc2 hg2 hb2 hown3 hc3 hg3 hb3 hg4 hk
  cases b
  · go_wp2_with fail
    refine (l1Num_any _ p hc4).mono ?_
    rintro e w5 ⟨m, rfl, hm, hc5, hg5⟩
    have hb5 := hb4.grown hg5 hb4.size (fun q hq => by have := Option.some.inj hq; omega)
    have hown5 := own_cur hown4 hg5 hp2
    go_wp2_with fail
    refine (spec_PutNum _ _ _ _ (own_reads hown5) (own_nil hown5) (by omega) m).mono ?_
    rintro e w6 ⟨A6, c6, rfl, hown6, hb_6⟩
    have hb6 := hb5.trans (hb_6.mono hb5.size)
    have hc6 := hc5.below hb_6
    have hl6 := putNum_len bs m
    have hp6 := hc5.lt
    go_wp2_with fail
    refine (l1Bent_any _ p hc6 _ _ _ (own_reads hown6) (own_nil hown6) (by omega)).mono ?_
    rintro e w7 ⟨A7, c7, qs, rfl, hl7, hown7, hc7, hg7⟩
    have hb7 := hb6.grown hg7 hb6.size (fun q hq => by have := Option.some.inj hq; omega)
    have hp7 := hc6.lt
    have hl8 : qs.length ≤ 1000 := by omega
    have hbs7 : w.heap.size ≤ w6.heap.size := hb6.size
    clear hown5 hown6 hb_6 hc5 hg5 hb5 hc4 hb4 hown4 hl6 hl7 hc6 hg7 hb6
    go_wp2_with fail
    refine (l1Once_any _ p hc7 6 (by omega) (by omega)).mono ?_
    rintro e w8 ⟨b, rfl, hc8, hg8⟩
    have hb8 := hb7.grown hg8 hb7.size (fun q hq => by have := Option.some.inj hq; omega)
    have hown8 := own_cur hown7 hg8 hp7
    cases b
    · go_wp2
      go_ret2
      exact ⟨_, _, qs, _, rfl, hl8, ⟨by omega, by omega⟩, own_lower' hown8 hbs7, hb8⟩
    · go_wp2_with fail
      refine (l1Int_lit w8 p hc8 3 4 [-1, 0, 7, 8] rfl (by omega) (by omega) (by simp [I64])).mono ?_
      rintro e w9 ⟨x, rfl, hx, hc9, hg9⟩
      have hb9 := hb8.grown hg9 hb8.size (fun q hq => by have := Option.some.inj hq; omega)
      have hown9 := own_cur hown8 hg9 hp7
      go_wp2
      go_ret2
      exact ⟨_, _, qs, x, rfl, hl8, hx, own_lower' hown9 hbs7, hb9⟩
  · go_wp2_with fail
    change Calls _ _ _ (litW6 w4 5 34) _
    have hp4 := hc4.lt
    have hF := litW_facts w4 5 34
    have hsW := litW6_size w4 5 34
    have hc5 : Cur (litW6 w4 5 34) p := hc4.below (litW_below (Below.refl _ _) (Nat.le_refl _) _ _)
    have hb5 := litW_below hb4 hb4.size 5 34
    have hown5 := own_step hown4 (litW_below (Below.refl w4.heap.size w4) (Nat.le_refl _) 5 34)
    obtain ⟨W, hW⟩ : ∃ W, W = litW6 w4 5 34 := ⟨_, rfl⟩
    rw [← hW] at hF hc5 hb5 hown5 hsW ⊢
    clear hW hown4 hb4 hc4
    refine (l1Below_any _ p hc5 6 (by omega) (by omega)).mono ?_
    rintro e w5 ⟨x, rfl, hx, hc6, hg6⟩
    have hb6 := hb5.grown hg6 hb5.size (fun q hq => by have := Option.some.inj hq; omega)
    obtain ⟨ls, hls, hlb, hlc⟩ := hF x hx
    have hd5 := hg6.cell hlc (fun e => by have := Option.some.inj e; dsimp only at this; omega)
    have hrd := reads_of_heap ((hg6.block (w4.heap.size + x) (by omega) (fun e => by have := Option.some.inj e; omega)).trans hlb)
    have hown6 := own_cur hown5 hg6 hp2
    have hs6 := hg6.size
    have hs5 := hb6.size
    clear hF hlb hlc hg6 hb5 hown5 hc5
    go_wp2_with (at_builtin; go_loud (refine append_slice rfl (.tmp 17) (.tmp 28) 34 rfl w2.heap.size 5 i0 _ 1 1 Try.underlying34 hi0 hz0 hz1 hz2 rfl (by omega) (by omega) A3 bs.length c3 _ rfl hown6 w5.heap.size ls.length ls.length (some ⟨w4.heap.size + x, 0, none⟩) _ rfl (fun h => by cases h) hrd (byteCells_one' _) (by omega) (by omega) (by omega) ?_); intro A7 c7 w7 hown7 hb_7)
    have hc7 := hc6.below' hb_7 hp2
    have hb7 := hb6.trans (hb_7.mono hbase)
    have hp7 := hp2
    have hlq : (bs ++ ls).length = bs.length + ls.length := List.length_append
    rw [← hlq]
    rw [← hlq, show byteCells bs ++ byteCells ls = byteCells (bs ++ ls) by simp [byteCells]] at hown7
    have hl8 : (bs ++ ls).length ≤ 1000 := by omega
    have hbs7 : w.heap.size ≤ w2.heap.size := hbase
    obtain ⟨qs, hqs⟩ : ∃ qs, qs = bs ++ ls := ⟨_, rfl⟩
    rw [← hqs] at hown7 hl8 ⊢
    clear hlq hqs hb_7 hrd hown6 hb6 hc6 hd5
    go_wp2_with fail
    refine (l1Once_any _ p hc7 6 (by omega) (by omega)).mono ?_
    rintro e w8 ⟨b, rfl, hc8, hg8⟩
    have hb8 := hb7.grown hg8 hb7.size (fun q hq => by have := Option.some.inj hq; omega)
    have hown8 := own_cur hown7 hg8 hp7
    cases b
    · go_wp2
      go_ret2
      exact ⟨_, _, qs, _, rfl, hl8, ⟨by omega, by omega⟩, own_lower' hown8 hbs7, hb8⟩
    · go_wp2_with fail
      refine (l1Int_lit w8 p hc8 3 4 [-1, 0, 7, 8] rfl (by omega) (by omega) (by simp [I64])).mono ?_
      rintro e w9 ⟨x, rfl, hx, hc9, hg9⟩
      have hb9 := hb8.grown hg9 hb8.size (fun q hq => by have := Option.some.inj hq; omega)
      have hown9 := own_cur hown8 hg9 hp7
      go_wp2
      go_ret2
      exact ⟨_, _, qs, x, rfl, hl8, hx, own_lower' hown9 hbs7, hb9⟩

end Go.Proofs.Ytkgkommlfceneaa
