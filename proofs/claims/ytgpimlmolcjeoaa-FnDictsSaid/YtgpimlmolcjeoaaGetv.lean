/-
  Contracts of GetVal, in the program and in the reference.
-/
import Derived.Test.YtgpimlmolcjeoaaPlain
namespace Go.Proofs.Ytgpimlmolcjeoaa
open Go.RowKit
set_option linter.unusedVariables false
set_option maxRecDepth 100000

theorem three_set {w : World} {b : Nat} {u0 u1 u2 : Value} (h0 : w.cell? ⟨b, 0, none⟩ = some u0) (h1 : w.cell? ⟨b, 1, none⟩ = some u1) (h2 : w.cell? ⟨b, 2, none⟩ = some u2) (a0 a1 a2 : Value) :
    (((w.setCell ⟨b, 0, none⟩ a0).setCell ⟨b, 1, none⟩ a1).setCell ⟨b, 2, none⟩ a2).cell? ⟨b, 0, none⟩ = some a0 ∧
    (((w.setCell ⟨b, 0, none⟩ a0).setCell ⟨b, 1, none⟩ a1).setCell ⟨b, 2, none⟩ a2).cell? ⟨b, 1, none⟩ = some a1 ∧
    (((w.setCell ⟨b, 0, none⟩ a0).setCell ⟨b, 1, none⟩ a1).setCell ⟨b, 2, none⟩ a2).cell? ⟨b, 2, none⟩ = some a2 := by
  have k1 : (w.setCell ⟨b, 0, none⟩ a0).cell? ⟨b, 1, none⟩ = some u1 := (World.cell?_setCell_other _ _ _ _ (by simp)).trans h1
  have k2 : ((w.setCell ⟨b, 0, none⟩ a0).setCell ⟨b, 1, none⟩ a1).cell? ⟨b, 2, none⟩ = some u2 := (World.cell?_setCell_other _ _ _ _ (by simp)).trans ((World.cell?_setCell_other _ _ _ _ (by simp)).trans h2)
  refine ⟨?_, ?_, World.cell?_setCell_same _ _ _ k2⟩
  · exact (World.cell?_setCell_other _ _ _ _ (by simp)).trans ((World.cell?_setCell_other _ _ _ _ (by simp)).trans (World.cell?_setCell_same _ _ _ h0))
  · exact (World.cell?_setCell_other _ _ _ _ (by simp)).trans (World.cell?_setCell_same _ _ _ k1)
theorem below_three {B : Nat} {w0 w : World} (h : Below B w0 w) {b : Nat} (hb : B ≤ b) (a0 a1 a2 : Value) : Below B w0 (((w.setCell ⟨b, 0, none⟩ a0).setCell ⟨b, 1, none⟩ a1).setCell ⟨b, 2, none⟩ a2) :=
  ((h.setCell hb _).setCell hb _).setCell hb _
theorem conv_text {P : Program} (w : World) (src dst e : TypeId) (hs : P.underlying src = some (.slice e)) (he : P.underlying e = some (.int .u8)) (hd : P.underlying dst = some .string) (b off k cap : Nat) (xs : List UInt8) (hl : xs.length = k)
    (hc : ∀ j x, xs[j]? = some x → w.cell? ⟨b, off + j, none⟩ = some (.int .u8 (x.toNat : Int))) :
    (convert src dst (.slice (some ⟨b, off, none⟩) k cap)).run P w = .ok (.string ⟨xs.toArray⟩) w := by
  have h := run_convert_bytes_arg (P := P) w src e hs he b off k cap (xs.map fun x => (x.toNat : Int)) (by simpa using hl) (fun i hi => by
    have hi' : i < xs.length := by omega
    rw [hc i xs[i] (List.getElem?_eq_getElem hi')]
    simp [hi']) dst hd
  rw [h]
  simp only [strOfNums, List.map_map]
  rw [show ((fun n : Int => UInt8.ofNat n.toNat) ∘ fun x : UInt8 => (x.toNat : Int)) = id from funext fun x => by simp [UInt8.ofNat_toNat], List.map_id]
theorem gv_num {bs : List UInt8} {a n : Int} {q : Nat} (h : getNum bs a = some (n, q)) : gnN bs a = n ∧ gnP bs a = (q : Int) ∧ gnOk bs a = true := by simp [gnN, gnP, gnOk, h]
theorem gv_nonum {bs : List UInt8} {a : Int} (h : getNum bs a = none) : gnN bs a = 0 ∧ gnP bs a = 0 ∧ gnOk bs a = false := by simp [gnN, gnP, gnOk, h]
def zeroV : Value := .agg #[.int .i64 0, .int .i64 0, .string ⟨#[]⟩]
def gvT (bs : List UInt8) (a ty : Int) : Value := .tuple #[.agg #[.int .i64 (gvV bs a ty).ty, .int .i64 (gvV bs a ty).n, .string (gvV bs a ty).s], .int .i64 (gvP bs a ty), .bool (gvOk bs a ty)]
theorem gvT_no {bs : List UInt8} {a ty : Int} (h : getVal bs a ty = none) : gvT bs a ty = .tuple #[.agg #[.int .i64 0, .int .i64 0, .string ⟨#[]⟩], .int .i64 0, .bool false] := by
  obtain ⟨h1, h2, h3⟩ := gv_nothing h
  simp [gvT, h1, h2, h3]
theorem gvT_yes {bs : List UInt8} {a ty : Int} {v : V} {q : Nat} (h : getVal bs a ty = some (v, q)) : gvT bs a ty = .tuple #[.agg #[.int .i64 v.ty, .int .i64 v.n, .string v.s], .int .i64 (q : Int), .bool true] := by
  obtain ⟨h1, h2, h3⟩ := gv_parts h
  simp [gvT, h1, h2, h3]

set_option maxHeartbeats 3200000 in
theorem spec_GetVal (w : World) (A : Option Addr) (c : Nat) (bs : List UInt8) (hr : Reads w w.heap.size 1 A bs.length (byteCells bs)) (hl : bs.length ≤ 1099511627776) (hcap : bs.length ≤ c) (a : Int) (ha : I64 a) (ty : Int) (hty : I64 ty) :
    Calls Try.prog 35 #[.slice A bs.length c, .int .i64 a, .int .i64 ty] w fun e w' => e = .returned (gvT bs a ty) ∧ Below w.heap.size w w' := by
  obtain ⟨W, hW⟩ : ∃ W, W = w.alloc (.cells #[.int .i64 0, .int .i64 0, .string ⟨#[]⟩] 37) := ⟨_, rfl⟩
  have hbl : Below w.heap.size w W := by rw [hW]; exact Below.alloc0 (Below.refl _ _) _
  have hszW : W.heap.size = w.heap.size + 1 := by rw [hW]; simp
  have q0 : W.cell? ⟨w.heap.size, 0, none⟩ = some (.int .i64 0) := by rw [hW]; simp [go_sem]
  have q1 : W.cell? ⟨w.heap.size, 1, none⟩ = some (.int .i64 0) := by rw [hW]; simp [go_sem]
  have q2 : W.cell? ⟨w.heap.size, 2, none⟩ = some (.string ⟨#[]⟩) := by rw [hW]; simp [go_sem]
  have qf0 : W.frozen? ⟨w.heap.size, 0, none⟩ = false := by rw [hW]; simp [go_sem]
  have qf1 : W.frozen? ⟨w.heap.size, 1, none⟩ = false := by rw [hW]; simp [go_sem]
  have qf2 : W.frozen? ⟨w.heap.size, 2, none⟩ = false := by rw [hW]; simp [go_sem]
  have hrW := (hr.below hbl (Nat.le_refl _)).more hbl.size
  by_cases h1 : ty = 1
  · subst h1
    go_enter Try.func35, Try.ntmps35
    go_wp2_with fail
    rw [← hW]
    clear hW
    refine (spec_GetNum _ _ _ _ hrW hl a ha).mono ?_
    rintro e w1 ⟨rfl, hb1⟩
    replace q0 := cell_keep hb1 q0
    replace q1 := cell_keep hb1 q1
    replace q2 := cell_keep hb1 q2
    replace qf0 := (hb1.frozen (p := ⟨w.heap.size, 0, none⟩) (by simp; omega)).trans qf0
    replace qf1 := (hb1.frozen (p := ⟨w.heap.size, 1, none⟩) (by simp; omega)).trans qf1
    replace qf2 := (hb1.frozen (p := ⟨w.heap.size, 2, none⟩) (by simp; omega)).trans qf2
    replace hbl := hbl.trans (hb1.mono hbl.size)
    clear hb1 hr hrW
    cases hg : getNum bs a with
    | none =>
      have hq := Lib.hid (gv_nonum hg)
      have ho := Lib.hid (gvT_no (getVal_int_no hg))
      rw [hq.out.1, hq.out.2.1, hq.out.2.2]
      clear hg
      go_wp2
      obtain ⟨r0, r1, r2⟩ := three_set q0 q1 q2 (.int .i64 0) (.int .i64 0) (.string ⟨#[]⟩)
      have hfin := below_three hbl (b := w.heap.size) (Nat.le_refl _) (.int .i64 0) (.int .i64 0) (.string ⟨#[]⟩)
      first
        | exact bodyPost_ret (v := .tuple #[.agg #[.int .i64 0, .int .i64 0, .string ⟨#[]⟩], .int .i64 0, .bool false]) (by simp [results, Try.results35, go_sem, r0, r1, r2]) rfl ⟨by rw [ho.out], hfin⟩
        | exact bodyPost_ret (v := .tuple #[.agg #[.int .i64 0, .int .i64 0, .string ⟨#[]⟩], .int .i64 0, .bool false]) (by simp [results, Try.results35, go_sem, q0, q1, q2]) rfl ⟨by rw [ho.out], hbl⟩
    | some r =>
      obtain ⟨n, q⟩ := r
      have hq := Lib.hid (gv_num hg)
      have ho := Lib.hid (gvT_yes (getVal_int hg))
      rw [hq.out.1, hq.out.2.1, hq.out.2.2]
      clear hg
      go_wp2
      obtain ⟨r0, r1, r2⟩ := three_set q0 q1 q2 (.int .i64 1) (.int .i64 n) (.string ⟨#[]⟩)
      have hfin := below_three hbl (b := w.heap.size) (Nat.le_refl _) (.int .i64 1) (.int .i64 n) (.string ⟨#[]⟩)
      first
        | exact bodyPost_ret (v := .tuple #[.agg #[.int .i64 1, .int .i64 n, .string ⟨#[]⟩], .int .i64 (q : Int), .bool true]) (by simp [results, Try.results35, go_sem, r0, r1, r2]) rfl ⟨by rw [ho.out], hfin⟩
        | exact bodyPost_ret (v := .tuple #[.agg #[.int .i64 1, .int .i64 n, .string ⟨#[]⟩], .int .i64 (q : Int), .bool true]) (by simp [results, Try.results35, go_sem, q0, q1, q2]) rfl ⟨by rw [ho.out], hbl⟩
  have h1b : (ty == 1) = false := by simp [h1]
  by_cases h2 : ty = 2 ∧ 0 ≤ a ∧ a < (bs.length : Int)
  case neg =>
    have ho := Lib.hid (gvT_no (getVal_other h1 h2))
    by_cases h3 : ty = 2
    · have hB : inB a 0 ((bs.length : Int) - 1) = false := inB_false (by omega)
      subst h3
      clear h2 hr hrW h1 h1b
      go_enter Try.func35, Try.ntmps35
      go_wp2_with (go_at_call 71; refine (l1In_any _ _ _ _).mono ?_; rintro e w' ⟨rfl, rfl⟩; rw [hB])
      rw [← hW]
      clear hW
      obtain ⟨r0, r1, r2⟩ := three_set q0 q1 q2 (.int .i64 0) (.int .i64 0) (.string ⟨#[]⟩)
      have hfin := below_three hbl (b := w.heap.size) (Nat.le_refl _) (.int .i64 0) (.int .i64 0) (.string ⟨#[]⟩)
      first
        | exact bodyPost_ret (v := .tuple #[.agg #[.int .i64 0, .int .i64 0, .string ⟨#[]⟩], .int .i64 0, .bool false]) (by simp [results, Try.results35, go_sem, r0, r1, r2]) rfl ⟨by rw [ho.out], hfin⟩
        | exact bodyPost_ret (v := .tuple #[.agg #[.int .i64 0, .int .i64 0, .string ⟨#[]⟩], .int .i64 0, .bool false]) (by simp [results, Try.results35, go_sem, q0, q1, q2]) rfl ⟨by rw [ho.out], hbl⟩
    · have h3b : (ty != 2) = true := by simp [h3]
      clear h2 hr hrW h1
      go_enter Try.func35, Try.ntmps35
      go_wp2
      rw [← hW]
      clear hW
      obtain ⟨r0, r1, r2⟩ := three_set q0 q1 q2 (.int .i64 0) (.int .i64 0) (.string ⟨#[]⟩)
      have hfin := below_three hbl (b := w.heap.size) (Nat.le_refl _) (.int .i64 0) (.int .i64 0) (.string ⟨#[]⟩)
      first
        | exact bodyPost_ret (v := .tuple #[.agg #[.int .i64 0, .int .i64 0, .string ⟨#[]⟩], .int .i64 0, .bool false]) (by simp [results, Try.results35, go_sem, r0, r1, r2]) rfl ⟨by rw [ho.out], hfin⟩
        | exact bodyPost_ret (v := .tuple #[.agg #[.int .i64 0, .int .i64 0, .string ⟨#[]⟩], .int .i64 0, .bool false]) (by simp [results, Try.results35, go_sem, q0, q1, q2]) rfl ⟨by rw [ho.out], hbl⟩
  obtain ⟨rfl, ha0, hal⟩ := h2
  obtain ⟨p, rfl⟩ := Int.eq_ofNat_of_zero_le ha0
  have hpl : p < bs.length := by omega
  have hB : inB (p : Int) 0 ((bs.length : Int) - 1) = true := inB_true (by omega)
  clear ha0 h1 h1b
  obtain ⟨b, off, x, rfl, hb, hx, hc⟩ := hr.byte hpl
  have hd : W.cell? ⟨b, off + p, none⟩ = some (.int .u8 (x.toNat : Int)) := (hbl.cell (p := ⟨b, off + p, none⟩) hb).trans hc
  have hx255 := x.toNat_lt
  have hgt := Lib.hid (getVal_text hx.out)
  obtain ⟨k, hk⟩ : ∃ k, k = x.toNat := ⟨_, rfl⟩
  rw [← hk] at hd hx255 hgt
  clear hc hx hk
  by_cases hlen : p + 1 + k ≤ bs.length
  case neg =>
    have ho := Lib.hid (gvT_no (hgt.out.trans (if_neg (fun h => hlen h.1))))
    clear hgt hr hrW
    subst hW
    go_enter Try.func35, Try.ntmps35
    go_wp2_with (first | (go_at_call 71; refine (l1In_any _ _ _ _).mono ?_; rintro e w' ⟨rfl, rfl⟩; rw [hB]))
    obtain ⟨r0, r1, r2⟩ := three_set q0 q1 q2 (.int .i64 0) (.int .i64 0) (.string ⟨#[]⟩)
    have hfin := below_three hbl (b := w.heap.size) (Nat.le_refl _) (.int .i64 0) (.int .i64 0) (.string ⟨#[]⟩)
    first
      | exact bodyPost_ret (v := .tuple #[.agg #[.int .i64 0, .int .i64 0, .string ⟨#[]⟩], .int .i64 0, .bool false]) (by simp [results, Try.results35, go_sem, r0, r1, r2]) rfl ⟨by rw [ho.out], hfin⟩
      | exact bodyPost_ret (v := .tuple #[.agg #[.int .i64 0, .int .i64 0, .string ⟨#[]⟩], .int .i64 0, .bool false]) (by simp [results, Try.results35, go_sem, q0, q1, q2]) rfl ⟨by rw [ho.out], hbl⟩
  obtain ⟨xs, hxs⟩ : ∃ xs, xs = (bs.drop (p + 1)).take k := ⟨_, rfl⟩
  have hxl : xs.length = k := by rw [hxs]; simp; omega
  have hcs : ∀ j y, xs[j]? = some y → W.cell? ⟨b, off + (p + 1) + j, none⟩ = some (.int .u8 ((y : UInt8).toNat : Int)) := by
    intro j y hj
    have hjk : j < k := by rw [← hxl]; exact (List.getElem?_eq_some_iff.1 hj).1
    have hbj : bs[p + 1 + j]? = some y := by
      rw [hxs, List.getElem?_take_of_lt hjk, List.getElem?_drop] at hj
      exact hj
    obtain ⟨b', off', x', hbb, hb', hx', hc'⟩ := hr.byte (k := p + 1 + j) (by omega)
    obtain ⟨rfl, rfl⟩ : b = b' ∧ off = off' := by injection hbb with h; injection h with h1 h2; exact ⟨h1, h2⟩
    obtain rfl : x' = y := Option.some.inj (hx'.out.symm.trans hbj)
    rw [show off + (p + 1) + j = off + (p + 1 + j) by omega]
    exact (hbl.cell (p := ⟨b, off + (p + 1 + j), none⟩) hb).trans hc'
  have hcvA : c = p + 1 → ∀ cap, (convert 22 9 (.slice (some ⟨b, off, none⟩) k cap)).run Try.prog W = .ok (.string ⟨xs.toArray⟩) W := fun hcp cap => conv_text W _ _ _ Try.underlying22 Try.underlying5 Try.underlying9 b off k cap xs hxl (fun j y hj => by
    have := (List.getElem?_eq_some_iff.1 hj).1
    omega)
  have hcvB : ¬ c = p + 1 → ∀ cap, (convert 22 9 (.slice (some ⟨b, off + (p + 1), none⟩) k cap)).run Try.prog W = .ok (.string ⟨xs.toArray⟩) W := fun _ cap => conv_text W _ _ _ Try.underlying22 Try.underlying5 Try.underlying9 b (off + (p + 1)) k cap xs hxl hcs
  clear hcs
  have hwr : IntKind.i64.wrap (k : Int) = (k : Int) := by rw [IntKind.wrap_i64]; omega
  subst hxs
  subst hW
  have hvok : (textAt bs p k).ok := by
    refine ⟨show I64 2 by unfold I64; omega, show I64 0 by unfold I64; omega, ?_⟩
    show ((bs.drop (p + 1)).take k).toArray.size ≤ maxLen
    unfold maxLen
    simp
    omega
  by_cases hcp : c = p + 1
  all_goals
    first
      | have hcv := hcvA hcp
      | have hcv := hcvB hcp
    clear hcvA hcvB
    go_enter Try.func35, Try.ntmps35
    go_wp2_with (first | (go_at_call 71; refine (l1In_any _ _ _ _).mono ?_; rintro e w' ⟨rfl, rfl⟩; rw [hB]))
    clear q0 q1 q2 qf0 qf1 qf2 hd hcv hbl hszW hr hrW hxl
    refine (spec_ValOk _ (textAt bs p k) hvok).mono ?_
    rintro e w2 ⟨rfl, hb2⟩
    have q0 : w2.cell? ⟨w.heap.size, 0, none⟩ = some (.int .i64 0) := cell_keep hb2 (by simp [go_sem])
    have q1 : w2.cell? ⟨w.heap.size, 1, none⟩ = some (.int .i64 0) := cell_keep hb2 (by simp [go_sem])
    have q2 : w2.cell? ⟨w.heap.size, 2, none⟩ = some (.string ⟨#[]⟩) := cell_keep hb2 (by simp [go_sem])
    have qf0 : w2.frozen? ⟨w.heap.size, 0, none⟩ = false := (hb2.frozen (p := ⟨w.heap.size, 0, none⟩) (by simp; try omega)).trans (by simp [go_sem])
    have qf1 : w2.frozen? ⟨w.heap.size, 1, none⟩ = false := (hb2.frozen (p := ⟨w.heap.size, 1, none⟩) (by simp; try omega)).trans (by simp [go_sem])
    have qf2 : w2.frozen? ⟨w.heap.size, 2, none⟩ = false := (hb2.frozen (p := ⟨w.heap.size, 2, none⟩) (by simp; try omega)).trans (by simp [go_sem])
    have p0 : w2.cell? ⟨w.heap.size + 1, 0, none⟩ = some (.int .i64 2) := cell_keep hb2 (by simp [go_sem])
    have p1 : w2.cell? ⟨w.heap.size + 1, 1, none⟩ = some (.int .i64 0) := cell_keep hb2 (by simp [go_sem])
    have p2 : w2.cell? ⟨w.heap.size + 1, 2, none⟩ = some (.string ⟨((bs.drop (p + 1)).take k).toArray⟩) := cell_keep hb2 (by simp [go_sem])
    have pf0 : w2.frozen? ⟨w.heap.size + 1, 0, none⟩ = false := (hb2.frozen (p := ⟨w.heap.size + 1, 0, none⟩) (by simp; try omega)).trans (by simp [go_sem])
    have pf1 : w2.frozen? ⟨w.heap.size + 1, 1, none⟩ = false := (hb2.frozen (p := ⟨w.heap.size + 1, 1, none⟩) (by simp; try omega)).trans (by simp [go_sem])
    have pf2 : w2.frozen? ⟨w.heap.size + 1, 2, none⟩ = false := (hb2.frozen (p := ⟨w.heap.size + 1, 2, none⟩) (by simp; try omega)).trans (by simp [go_sem])
    have hbl : Below w.heap.size w w2 := (Below.alloc0 (Below.alloc0 (Below.refl _ _) _) _).trans (hb2.mono (by simp; try omega))
    clear hb2
    cases hvo : valOk (textAt bs p k)
    · have ho := Lib.hid (gvT_no (hgt.out.trans (if_neg (fun h => by rw [hvo] at h; cases h.2))))
      clear hgt hvo
      go_wp2
      obtain ⟨r0, r1, r2⟩ := three_set q0 q1 q2 (.int .i64 0) (.int .i64 0) (.string ⟨#[]⟩)
      have hfin := below_three hbl (b := w.heap.size) (Nat.le_refl _) (.int .i64 0) (.int .i64 0) (.string ⟨#[]⟩)
      first
        | exact bodyPost_ret (v := .tuple #[.agg #[.int .i64 0, .int .i64 0, .string ⟨#[]⟩], .int .i64 0, .bool false]) (by simp [results, Try.results35, go_sem, r0, r1, r2]) rfl ⟨by rw [ho.out], hfin⟩
        | exact bodyPost_ret (v := .tuple #[.agg #[.int .i64 0, .int .i64 0, .string ⟨#[]⟩], .int .i64 0, .bool false]) (by simp [results, Try.results35, go_sem, q0, q1, q2]) rfl ⟨by rw [ho.out], hbl⟩
    · have ho := Lib.hid (show gvT bs (p : Int) 2 = .tuple #[.agg #[.int .i64 2, .int .i64 0, .string ⟨((bs.drop (p + 1)).take k).toArray⟩], .int .i64 ((p : Int) + 1 + (k : Int)), .bool true] from (gvT_yes (hgt.out.trans (if_pos ⟨hlen, hvo⟩))).trans (by rw [show ((p + 1 + k : Nat) : Int) = (p : Int) + 1 + (k : Int) by omega]; rfl))
      clear hgt hvo
      go_wp2
      obtain ⟨r0, r1, r2⟩ := three_set q0 q1 q2 (.int .i64 2) (.int .i64 0) (.string ⟨((bs.drop (p + 1)).take k).toArray⟩)
      have hfin := below_three hbl (b := w.heap.size) (Nat.le_refl _) (.int .i64 2) (.int .i64 0) (.string ⟨((bs.drop (p + 1)).take k).toArray⟩)
      first
        | exact bodyPost_ret (v := .tuple #[.agg #[.int .i64 2, .int .i64 0, .string ⟨((bs.drop (p + 1)).take k).toArray⟩], .int .i64 ((p : Int) + 1 + (k : Int)), .bool true]) (by simp [results, Try.results35, go_sem, r0, r1, r2]) rfl ⟨by rw [ho.out], hfin⟩
        | exact bodyPost_ret (v := .tuple #[.agg #[.int .i64 2, .int .i64 0, .string ⟨((bs.drop (p + 1)).take k).toArray⟩], .int .i64 ((p : Int) + 1 + (k : Int)), .bool true]) (by simp [results, Try.results35, go_sem, q0, q1, q2]) rfl ⟨by rw [ho.out], hbl⟩

set_option maxHeartbeats 6400000 in
theorem impl_GetVal (w : World) (A : Option Addr) (c : Nat) (bs : List UInt8) (hr : Reads w w.heap.size 1 A bs.length (byteCells bs)) (hl : bs.length ≤ 1099511627776) (hcap : bs.length ≤ c) (a : Int) (ha : I64 a) (ty : Int) (hty : I64 ty) :
    Calls Try.prog 34 #[.slice A bs.length c, .int .i64 a, .int .i64 ty] w fun e w' => e = .returned (gvT bs a ty) ∧ Below w.heap.size w w' := by
  obtain ⟨W, hW⟩ : ∃ W, W = (w.alloc (.cells #[.int .i64 0, .int .i64 0, .string ⟨#[]⟩] 37)).alloc (.cells #[.int .i64 ty, .int .i64 0, .string ⟨#[]⟩] 37) := ⟨_, rfl⟩
  have hbl : Below w.heap.size w W := by rw [hW]; exact Below.alloc0 (Below.alloc0 (Below.refl _ _) _) _
  have hszW : W.heap.size = w.heap.size + 1 + 1 := by rw [hW]; simp
  have q0 : W.cell? ⟨w.heap.size, 0, none⟩ = some (.int .i64 0) := by rw [hW]; simp [go_sem]
  have q1 : W.cell? ⟨w.heap.size, 1, none⟩ = some (.int .i64 0) := by rw [hW]; simp [go_sem]
  have q2 : W.cell? ⟨w.heap.size, 2, none⟩ = some (.string ⟨#[]⟩) := by rw [hW]; simp [go_sem]
  have qf0 : W.frozen? ⟨w.heap.size, 0, none⟩ = false := by rw [hW]; simp [go_sem]
  have qf1 : W.frozen? ⟨w.heap.size, 1, none⟩ = false := by rw [hW]; simp [go_sem]
  have qf2 : W.frozen? ⟨w.heap.size, 2, none⟩ = false := by rw [hW]; simp [go_sem]
  have p0 : W.cell? ⟨w.heap.size + 1, 0, none⟩ = some (.int .i64 ty) := by rw [hW]; simp [go_sem]
  have p1 : W.cell? ⟨w.heap.size + 1, 1, none⟩ = some (.int .i64 0) := by rw [hW]; simp [go_sem]
  have p2 : W.cell? ⟨w.heap.size + 1, 2, none⟩ = some (.string ⟨#[]⟩) := by rw [hW]; simp [go_sem]
  have pf0 : W.frozen? ⟨w.heap.size + 1, 0, none⟩ = false := by rw [hW]; simp [go_sem]
  have pf1 : W.frozen? ⟨w.heap.size + 1, 1, none⟩ = false := by rw [hW]; simp [go_sem]
  have pf2 : W.frozen? ⟨w.heap.size + 1, 2, none⟩ = false := by rw [hW]; simp [go_sem]
  have hrW := (hr.below hbl (Nat.le_refl _)).more hbl.size
  by_cases h1 : ty = 1
  · subst h1
    go_enter Try.func34, Try.ntmps34
    go_wp2_with fail
    rw [← hW]
    clear hW
    refine (impl_GetNum _ _ _ _ hrW hl a ha).mono ?_
    rintro e w1 ⟨rfl, hb1⟩
    replace q0 := cell_keep hb1 q0
    replace q1 := cell_keep hb1 q1
    replace q2 := cell_keep hb1 q2
    replace qf0 := (hb1.frozen (p := ⟨w.heap.size, 0, none⟩) (by simp; omega)).trans qf0
    replace qf1 := (hb1.frozen (p := ⟨w.heap.size, 1, none⟩) (by simp; omega)).trans qf1
    replace qf2 := (hb1.frozen (p := ⟨w.heap.size, 2, none⟩) (by simp; omega)).trans qf2
    replace p0 := cell_keep hb1 p0
    replace p1 := cell_keep hb1 p1
    replace p2 := cell_keep hb1 p2
    replace pf0 := (hb1.frozen (p := ⟨w.heap.size + 1, 0, none⟩) (by simp; omega)).trans pf0
    replace pf1 := (hb1.frozen (p := ⟨w.heap.size + 1, 1, none⟩) (by simp; omega)).trans pf1
    replace pf2 := (hb1.frozen (p := ⟨w.heap.size + 1, 2, none⟩) (by simp; omega)).trans pf2
    have hz1 := hb1.size
    replace hbl := hbl.trans (hb1.mono hbl.size)
    clear hb1 hr hrW
    cases hg : getNum bs a with
    | none =>
      have hq := Lib.hid (gv_nonum hg)
      have ho := Lib.hid (gvT_no (getVal_int_no hg))
      rw [hq.out.1, hq.out.2.1, hq.out.2.2]
      clear hg
      go_wp2
      obtain ⟨r0, r1, r2⟩ := three_set q0 q1 q2 (.int .i64 0) (.int .i64 0) (.string ⟨#[]⟩)
      have hfin := below_three hbl (b := w.heap.size) (Nat.le_refl _) (.int .i64 0) (.int .i64 0) (.string ⟨#[]⟩)
      first
        | exact bodyPost_ret (v := .tuple #[.agg #[.int .i64 0, .int .i64 0, .string ⟨#[]⟩], .int .i64 0, .bool false]) (by simp [results, Try.results34, go_sem, r0, r1, r2]) rfl ⟨by rw [ho.out], hfin⟩
        | exact bodyPost_ret (v := .tuple #[.agg #[.int .i64 0, .int .i64 0, .string ⟨#[]⟩], .int .i64 0, .bool false]) (by simp [results, Try.results34, go_sem, q0, q1, q2]) rfl ⟨by rw [ho.out], hbl⟩
    | some r =>
      obtain ⟨n, q⟩ := r
      have ha0 := getNum_neg hg
      obtain ⟨P, rfl⟩ := Int.eq_ofNat_of_zero_le ha0
      obtain ⟨hPq, hql, hin, _⟩ := getNum_put hg
      have hq := Lib.hid (gv_num hg)
      have ho := Lib.hid (gvT_yes (getVal_int hg))
      have hvo := valOk_int1 hin
      have hvok := valOk_ok hvo
      have hq0 : ((q : Int) == 0) = false := by simp; omega
      rw [hq.out.1, hq.out.2.1, hq.out.2.2]
      clear hg hPq hin
      go_wp2_with fail
      refine (impl_ValOk _ ⟨1, n, ⟨#[]⟩⟩ hvok).mono ?_
      rintro e w3 ⟨rfl, hb3⟩
      rw [hvo]
      have hlt0 : w.heap.size < (w1.setCell ⟨w.heap.size + 1, 1, none⟩ (.int .i64 n)).heap.size := by simp; omega
      have hlt1 : w.heap.size + 1 < (w1.setCell ⟨w.heap.size + 1, 1, none⟩ (.int .i64 n)).heap.size := by simp; omega
      replace p0 := cell_keep hb3 ((World.cell?_setCell_other _ _ _ _ (by simp)).trans p0)
      replace p2 := cell_keep hb3 ((World.cell?_setCell_other _ _ _ _ (by simp)).trans p2)
      replace p1 := cell_keep hb3 (World.cell?_setCell_same _ _ (.int .i64 n) p1)
      replace q0 := cell_keep hb3 ((World.cell?_setCell_far _ _ _ _ (by simp)).trans q0)
      replace q1 := cell_keep hb3 ((World.cell?_setCell_far _ _ _ _ (by simp)).trans q1)
      replace q2 := cell_keep hb3 ((World.cell?_setCell_far _ _ _ _ (by simp)).trans q2)
      replace qf0 := (hb3.frozen (p := ⟨w.heap.size, 0, none⟩) hlt0).trans ((World.frozen?_setCell _ _ _ _).trans qf0)
      replace qf1 := (hb3.frozen (p := ⟨w.heap.size, 1, none⟩) hlt0).trans ((World.frozen?_setCell _ _ _ _).trans qf1)
      replace qf2 := (hb3.frozen (p := ⟨w.heap.size, 2, none⟩) hlt0).trans ((World.frozen?_setCell _ _ _ _).trans qf2)
      replace hbl := (hbl.setCell (p := ⟨w.heap.size + 1, 1, none⟩) (by simp) (.int .i64 n)).trans (hb3.mono (by simp; omega))
      clear hb3 hvo hlt0 hlt1
      go_wp2
      obtain ⟨r0, r1, r2⟩ := three_set q0 q1 q2 (.int .i64 1) (.int .i64 n) (.string ⟨#[]⟩)
      have hfin := below_three hbl (b := w.heap.size) (Nat.le_refl _) (.int .i64 1) (.int .i64 n) (.string ⟨#[]⟩)
      first
        | exact bodyPost_ret (v := .tuple #[.agg #[.int .i64 1, .int .i64 n, .string ⟨#[]⟩], .int .i64 (q : Int), .bool true]) (by simp [results, Try.results34, go_sem, r0, r1, r2]) rfl ⟨by rw [ho.out], hfin⟩
        | exact bodyPost_ret (v := .tuple #[.agg #[.int .i64 1, .int .i64 n, .string ⟨#[]⟩], .int .i64 (q : Int), .bool true]) (by simp [results, Try.results34, go_sem, q0, q1, q2]) rfl ⟨by rw [ho.out], hbl⟩
  have h1b : (ty == 1) = false := by simp [h1]
  by_cases h2 : ty = 2 ∧ 0 ≤ a ∧ a < (bs.length : Int)
  case neg =>
    have ho := Lib.hid (gvT_no (getVal_other h1 h2))
    have hvok : V.ok ⟨ty, 0, ⟨#[]⟩⟩ := ⟨hty, show I64 0 by unfold I64; omega, show (0 : Nat) ≤ maxLen by unfold maxLen; omega⟩
    by_cases h3 : ty = 2
    · have hB : a < 0 ∨ (bs.length : Int) ≤ a := by omega
      have h3b : (ty == 2) = true := by simp [h3]
      clear h2 hr hrW h1 h3
      rcases hB with hB | hB
      all_goals
        go_enter Try.func34, Try.ntmps34
        go_wp2_with fail
        rw [← hW]
        refine (impl_ValOk _ ⟨ty, 0, ⟨#[]⟩⟩ hvok).mono ?_
        rintro e w2 ⟨rfl, hb1⟩
        clear hW
        replace q0 := cell_keep hb1 q0
        replace q1 := cell_keep hb1 q1
        replace q2 := cell_keep hb1 q2
        replace qf0 := (hb1.frozen (p := ⟨w.heap.size, 0, none⟩) (by simp; omega)).trans qf0
        replace qf1 := (hb1.frozen (p := ⟨w.heap.size, 1, none⟩) (by simp; omega)).trans qf1
        replace qf2 := (hb1.frozen (p := ⟨w.heap.size, 2, none⟩) (by simp; omega)).trans qf2
        replace hbl := hbl.trans (hb1.mono hbl.size)
        cases valOk ⟨ty, 0, ⟨#[]⟩⟩
        all_goals
          go_wp2
          obtain ⟨r0, r1, r2⟩ := three_set q0 q1 q2 (.int .i64 0) (.int .i64 0) (.string ⟨#[]⟩)
          have hfin := below_three hbl (b := w.heap.size) (Nat.le_refl _) (.int .i64 0) (.int .i64 0) (.string ⟨#[]⟩)
          first
            | exact bodyPost_ret (v := .tuple #[.agg #[.int .i64 0, .int .i64 0, .string ⟨#[]⟩], .int .i64 0, .bool false]) (by simp [results, Try.results34, go_sem, r0, r1, r2]) rfl ⟨by rw [ho.out], hfin⟩
            | exact bodyPost_ret (v := .tuple #[.agg #[.int .i64 0, .int .i64 0, .string ⟨#[]⟩], .int .i64 0, .bool false]) (by simp [results, Try.results34, go_sem, q0, q1, q2]) rfl ⟨by rw [ho.out], hbl⟩
    · have h3b : (ty == 2) = false := by simp [h3]
      clear h2 hr hrW h1 h3
      go_enter Try.func34, Try.ntmps34
      go_wp2_with fail
      rw [← hW]
      refine (impl_ValOk _ ⟨ty, 0, ⟨#[]⟩⟩ hvok).mono ?_
      rintro e w2 ⟨rfl, hb1⟩
      clear hW
      replace q0 := cell_keep hb1 q0
      replace q1 := cell_keep hb1 q1
      replace q2 := cell_keep hb1 q2
      replace qf0 := (hb1.frozen (p := ⟨w.heap.size, 0, none⟩) (by simp; omega)).trans qf0
      replace qf1 := (hb1.frozen (p := ⟨w.heap.size, 1, none⟩) (by simp; omega)).trans qf1
      replace qf2 := (hb1.frozen (p := ⟨w.heap.size, 2, none⟩) (by simp; omega)).trans qf2
      replace hbl := hbl.trans (hb1.mono hbl.size)
      cases valOk ⟨ty, 0, ⟨#[]⟩⟩
      all_goals
        go_wp2
        obtain ⟨r0, r1, r2⟩ := three_set q0 q1 q2 (.int .i64 0) (.int .i64 0) (.string ⟨#[]⟩)
        have hfin := below_three hbl (b := w.heap.size) (Nat.le_refl _) (.int .i64 0) (.int .i64 0) (.string ⟨#[]⟩)
        first
          | exact bodyPost_ret (v := .tuple #[.agg #[.int .i64 0, .int .i64 0, .string ⟨#[]⟩], .int .i64 0, .bool false]) (by simp [results, Try.results34, go_sem, r0, r1, r2]) rfl ⟨by rw [ho.out], hfin⟩
          | exact bodyPost_ret (v := .tuple #[.agg #[.int .i64 0, .int .i64 0, .string ⟨#[]⟩], .int .i64 0, .bool false]) (by simp [results, Try.results34, go_sem, q0, q1, q2]) rfl ⟨by rw [ho.out], hbl⟩
  obtain ⟨rfl, ha0, hal⟩ := h2
  obtain ⟨p, rfl⟩ := Int.eq_ofNat_of_zero_le ha0
  have hpl : p < bs.length := by omega
  clear ha0 h1 h1b
  obtain ⟨b, off, x, rfl, hb, hx, hc⟩ := hr.byte hpl
  have hd : W.cell? ⟨b, off + p, none⟩ = some (.int .u8 (x.toNat : Int)) := (hbl.cell (p := ⟨b, off + p, none⟩) hb).trans hc
  have hx255 := x.toNat_lt
  have hgt := Lib.hid (getVal_text hx.out)
  obtain ⟨k, hk⟩ : ∃ k, k = x.toNat := ⟨_, rfl⟩
  rw [← hk] at hd hx255 hgt
  clear hc hx hk
  by_cases hlen : p + 1 + k ≤ bs.length
  case neg =>
    have ho := Lib.hid (gvT_no (hgt.out.trans (if_neg (fun h => hlen h.1))))
    clear hgt hr hrW
    subst hW
    go_enter Try.func34, Try.ntmps34
    go_wp2_with fail
    obtain ⟨r0, r1, r2⟩ := three_set q0 q1 q2 (.int .i64 0) (.int .i64 0) (.string ⟨#[]⟩)
    have hfin := below_three hbl (b := w.heap.size) (Nat.le_refl _) (.int .i64 0) (.int .i64 0) (.string ⟨#[]⟩)
    first
      | exact bodyPost_ret (v := .tuple #[.agg #[.int .i64 0, .int .i64 0, .string ⟨#[]⟩], .int .i64 0, .bool false]) (by simp [results, Try.results34, go_sem, r0, r1, r2]) rfl ⟨by rw [ho.out], hfin⟩
      | exact bodyPost_ret (v := .tuple #[.agg #[.int .i64 0, .int .i64 0, .string ⟨#[]⟩], .int .i64 0, .bool false]) (by simp [results, Try.results34, go_sem, q0, q1, q2]) rfl ⟨by rw [ho.out], hbl⟩
  obtain ⟨xs, hxs⟩ : ∃ xs, xs = (bs.drop (p + 1)).take k := ⟨_, rfl⟩
  have hxl : xs.length = k := by rw [hxs]; simp; omega
  have hcs : ∀ j y, xs[j]? = some y → W.cell? ⟨b, off + (p + 1) + j, none⟩ = some (.int .u8 ((y : UInt8).toNat : Int)) := by
    intro j y hj
    have hjk : j < k := by rw [← hxl]; exact (List.getElem?_eq_some_iff.1 hj).1
    have hbj : bs[p + 1 + j]? = some y := by
      rw [hxs, List.getElem?_take_of_lt hjk, List.getElem?_drop] at hj
      exact hj
    obtain ⟨b', off', x', hbb, hb', hx', hc'⟩ := hr.byte (k := p + 1 + j) (by omega)
    obtain ⟨rfl, rfl⟩ : b = b' ∧ off = off' := by injection hbb with h; injection h with h1 h2; exact ⟨h1, h2⟩
    obtain rfl : x' = y := Option.some.inj (hx'.out.symm.trans hbj)
    rw [show off + (p + 1) + j = off + (p + 1 + j) by omega]
    exact (hbl.cell (p := ⟨b, off + (p + 1 + j), none⟩) hb).trans hc'
  have hcvA : c = p + 1 → ∀ cap, (convert 22 9 (.slice (some ⟨b, off, none⟩) k cap)).run Try.prog W = .ok (.string ⟨xs.toArray⟩) W := fun hcp cap => conv_text W _ _ _ Try.underlying22 Try.underlying5 Try.underlying9 b off k cap xs hxl (fun j y hj => by
    have := (List.getElem?_eq_some_iff.1 hj).1
    omega)
  have hcvB : ¬ c = p + 1 → ∀ cap, (convert 22 9 (.slice (some ⟨b, off + (p + 1), none⟩) k cap)).run Try.prog W = .ok (.string ⟨xs.toArray⟩) W := fun _ cap => conv_text W _ _ _ Try.underlying22 Try.underlying5 Try.underlying9 b (off + (p + 1)) k cap xs hxl hcs
  clear hcs
  have hwr : IntKind.i64.wrap (k : Int) = (k : Int) := by rw [IntKind.wrap_i64]; omega
  subst hxs
  subst hW
  have hvok : (textAt bs p k).ok := by
    refine ⟨show I64 2 by unfold I64; omega, show I64 0 by unfold I64; omega, ?_⟩
    show ((bs.drop (p + 1)).take k).toArray.size ≤ maxLen
    unfold maxLen
    simp
    omega
  by_cases hcp : c = p + 1
  all_goals
    first
      | have hcv := hcvA hcp
      | have hcv := hcvB hcp
    clear hcvA hcvB
    go_enter Try.func34, Try.ntmps34
    go_wp2_with fail
    clear q0 q1 q2 qf0 qf1 qf2 hd hcv hbl hszW hr hrW hxl p0 p1 p2 pf0 pf1 pf2
    refine (impl_ValOk _ (textAt bs p k) hvok).mono ?_
    rintro e w2 ⟨rfl, hb2⟩
    have q0 : w2.cell? ⟨w.heap.size, 0, none⟩ = some (.int .i64 0) := cell_keep hb2 (by simp [go_sem])
    have q1 : w2.cell? ⟨w.heap.size, 1, none⟩ = some (.int .i64 0) := cell_keep hb2 (by simp [go_sem])
    have q2 : w2.cell? ⟨w.heap.size, 2, none⟩ = some (.string ⟨#[]⟩) := cell_keep hb2 (by simp [go_sem])
    have qf0 : w2.frozen? ⟨w.heap.size, 0, none⟩ = false := (hb2.frozen (p := ⟨w.heap.size, 0, none⟩) (by simp; try omega)).trans (by simp [go_sem])
    have qf1 : w2.frozen? ⟨w.heap.size, 1, none⟩ = false := (hb2.frozen (p := ⟨w.heap.size, 1, none⟩) (by simp; try omega)).trans (by simp [go_sem])
    have qf2 : w2.frozen? ⟨w.heap.size, 2, none⟩ = false := (hb2.frozen (p := ⟨w.heap.size, 2, none⟩) (by simp; try omega)).trans (by simp [go_sem])
    have p0 : w2.cell? ⟨w.heap.size + 1, 0, none⟩ = some (.int .i64 2) := cell_keep hb2 (by simp [go_sem])
    have p1 : w2.cell? ⟨w.heap.size + 1, 1, none⟩ = some (.int .i64 0) := cell_keep hb2 (by simp [go_sem])
    have p2 : w2.cell? ⟨w.heap.size + 1, 2, none⟩ = some (.string ⟨((bs.drop (p + 1)).take k).toArray⟩) := cell_keep hb2 (by simp [go_sem])
    have pf0 : w2.frozen? ⟨w.heap.size + 1, 0, none⟩ = false := (hb2.frozen (p := ⟨w.heap.size + 1, 0, none⟩) (by simp; try omega)).trans (by simp [go_sem])
    have pf1 : w2.frozen? ⟨w.heap.size + 1, 1, none⟩ = false := (hb2.frozen (p := ⟨w.heap.size + 1, 1, none⟩) (by simp; try omega)).trans (by simp [go_sem])
    have pf2 : w2.frozen? ⟨w.heap.size + 1, 2, none⟩ = false := (hb2.frozen (p := ⟨w.heap.size + 1, 2, none⟩) (by simp; try omega)).trans (by simp [go_sem])
    have hbl : Below w.heap.size w w2 := (Below.alloc0 (Below.alloc0 (Below.refl _ _) _) _).trans (hb2.mono (by simp; try omega))
    clear hb2
    cases hvo : valOk (textAt bs p k)
    · have ho := Lib.hid (gvT_no (hgt.out.trans (if_neg (fun h => by rw [hvo] at h; cases h.2))))
      clear hgt hvo
      go_wp2
      obtain ⟨r0, r1, r2⟩ := three_set q0 q1 q2 (.int .i64 0) (.int .i64 0) (.string ⟨#[]⟩)
      have hfin := below_three hbl (b := w.heap.size) (Nat.le_refl _) (.int .i64 0) (.int .i64 0) (.string ⟨#[]⟩)
      first
        | exact bodyPost_ret (v := .tuple #[.agg #[.int .i64 0, .int .i64 0, .string ⟨#[]⟩], .int .i64 0, .bool false]) (by simp [results, Try.results34, go_sem, r0, r1, r2]) rfl ⟨by rw [ho.out], hfin⟩
        | exact bodyPost_ret (v := .tuple #[.agg #[.int .i64 0, .int .i64 0, .string ⟨#[]⟩], .int .i64 0, .bool false]) (by simp [results, Try.results34, go_sem, q0, q1, q2]) rfl ⟨by rw [ho.out], hbl⟩
    · have ho := Lib.hid (show gvT bs (p : Int) 2 = .tuple #[.agg #[.int .i64 2, .int .i64 0, .string ⟨((bs.drop (p + 1)).take k).toArray⟩], .int .i64 ((p : Int) + 1 + (k : Int)), .bool true] from (gvT_yes (hgt.out.trans (if_pos ⟨hlen, hvo⟩))).trans (by rw [show ((p + 1 + k : Nat) : Int) = (p : Int) + 1 + (k : Int) by omega]; rfl))
      clear hgt hvo
      go_wp2
      obtain ⟨r0, r1, r2⟩ := three_set q0 q1 q2 (.int .i64 2) (.int .i64 0) (.string ⟨((bs.drop (p + 1)).take k).toArray⟩)
      have hfin := below_three hbl (b := w.heap.size) (Nat.le_refl _) (.int .i64 2) (.int .i64 0) (.string ⟨((bs.drop (p + 1)).take k).toArray⟩)
      first
        | exact bodyPost_ret (v := .tuple #[.agg #[.int .i64 2, .int .i64 0, .string ⟨((bs.drop (p + 1)).take k).toArray⟩], .int .i64 ((p : Int) + 1 + (k : Int)), .bool true]) (by simp [results, Try.results34, go_sem, r0, r1, r2]) rfl ⟨by rw [ho.out], hfin⟩
        | exact bodyPost_ret (v := .tuple #[.agg #[.int .i64 2, .int .i64 0, .string ⟨((bs.drop (p + 1)).take k).toArray⟩], .int .i64 ((p : Int) + 1 + (k : Int)), .bool true]) (by simp [results, Try.results34, go_sem, q0, q1, q2]) rfl ⟨by rw [ho.out], hbl⟩

end Go.Proofs.Ytgpimlmolcjeoaa
