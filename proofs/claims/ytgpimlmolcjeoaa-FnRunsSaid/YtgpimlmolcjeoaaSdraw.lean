/-
  Contract of DrawSpread.
-/
import Derived.Test.YtgpimlmolcjeoaaTdraw
import Derived.Test.YtgpimlmolcjeoaaRuns
namespace Go.Proofs.Ytgpimlmolcjeoaa
open Go.RowKit
set_option linter.unusedVariables false
set_option maxRecDepth 100000

theorem runStep_ne (a : List (V × Int)) (x : V) : runStep a x ≠ [] := by
  unfold runStep
  split
  · split <;> simp
  · simp
theorem runs_ne : ∀ (l : List V) (a : List (V × Int)), (a ≠ [] ∨ l ≠ []) → l.foldl runStep a ≠ []
  | [], a, h => by simpa using h
  | x :: l, a, _ => runs_ne l (runStep a x) (.inl (runStep_ne a x))
theorem runsOf_pos {vs : List V} (h : 1 ≤ vs.length) : 1 ≤ (runsOf vs).length := by
  have := runs_ne vs [] (.inr (by rintro rfl; simp at h))
  exact List.length_pos_iff.2 this
def runB (K : Int) (r : V × Int) : Prop := r.1.ok ∧ 1 ≤ r.2 ∧ r.2 ≤ K
theorem runStep_b {K : Int} {a : List (V × Int)} {x : V} (hK : 0 ≤ K) (ha : ∀ r ∈ a, runB K r) (hx : x.ok) : ∀ r ∈ runStep a x, runB (K + 1) r := by
  have up : ∀ r ∈ a, runB (K + 1) r := fun r hr => ⟨(ha r hr).1, (ha r hr).2.1, by have := (ha r hr).2.2; omega⟩
  have key : ∀ r, r ∈ runStep a x → r ∈ a ∨ r = (x, 1) ∨ ∃ q, (x, q) ∈ a ∧ r = (x, q + 1) := by
    intro r hr
    rcases List.eq_nil_or_concat a with rfl | ⟨a', ⟨y, q⟩, rfl⟩
    · simp [runStep] at hr
      exact .inr (.inl hr)
    · by_cases hv : veq y x = true
      · have e := veq_iff.1 hv
        subst e
        rw [List.concat_eq_append, runStep_same] at hr
        rcases List.mem_append.1 hr with h | h
        · exact .inl (by simp [h])
        · rw [List.mem_singleton] at h
          exact .inr (.inr ⟨q, by simp, h⟩)
      · rw [List.concat_eq_append, runStep_new (fun e => hv (veq_iff.2 e))] at hr
        rcases List.mem_append.1 hr with h | h
        · exact .inl (by rw [List.concat_eq_append]; exact h)
        · exact .inr (.inl (List.mem_singleton.1 h))
  intro r hr
  rcases key r hr with h | rfl | ⟨q, hq, rfl⟩
  · exact up r h
  · exact ⟨hx, by simp, by simp; omega⟩
  · have := ha _ hq
    exact ⟨this.1, by have := this.2.1; simp at this ⊢; omega, by have := this.2.2; simp at this ⊢; omega⟩
theorem runsOf_b : ∀ (l : List V) (a : List (V × Int)) (K : Int), 0 ≤ K → (∀ r ∈ a, runB K r) → (∀ x ∈ l, x.ok) → ∀ r ∈ l.foldl runStep a, runB (K + l.length) r
  | [], a, K, _, ha, _ => by simpa using ha
  | x :: l, a, K, hK, ha, hl => by
    have := runsOf_b l (runStep a x) (K + 1) (by omega) (runStep_b hK ha (hl x (by simp))) (fun y hy => hl y (by simp [hy]))
    rw [List.foldl_cons, List.length_cons]
    intro r hr
    have h := this r hr
    exact ⟨h.1, h.2.1, by have := h.2.2; omega⟩
theorem runsOf_good {l : List V} (h : ∀ x ∈ l, x.ok) : ∀ r ∈ runsOf l, r.1.ok ∧ 1 ≤ r.2 ∧ r.2 ≤ l.length := by
  intro r hr
  have := runsOf_b l [] 0 (by omega) (by simp) h r hr
  exact ⟨this.1, this.2.1, by have := this.2.2; omega⟩
set_option maxHeartbeats 1600000 in
theorem DrawSpread_any (w : World) (A : Option Addr) (c : Nat) (cs : List UInt8) (hr : Reads w w.heap.size 1 A cs.length (byteCells cs)) (hl : cs.length ≤ 1099511627776) :
    Calls Try.prog 40 #[.slice A cs.length c] w fun e w' => ∃ (A' : Option Addr) (c' : Nat) (rs : List (V × Int)), e = .returned (.slice A' rs.length c') ∧ rs.length ≤ 100 ∧ (∀ r ∈ rs, runOk r) ∧
      w'.ownsRow w.heap.size 44 4 (.slice A' rs.length c') rs.length (runCells rs) ∧ Below w.heap.size w w' := by
  obtain ⟨i0, hi0, hz0, hz1, hz2⟩ := info_parts info_Run
  go_enter Try.func40, Try.ntmps40
  go_wp2_with fail
  refine (l1New_any _ _ _ _ hr hl).mono ?_
  rintro e w1 ⟨p, rfl, hp, hc1, hb1⟩
  go_wp2_with fail
  refine (l5Draw_any _ p hc1).mono ?_
  rintro e w2 ⟨A2, c2, vs, rfl, hl1, hl2, hvo, hown2, hc2, hg2⟩
  have hb2 := hb1.grown hg2 hb1.size (fun q hq => by have := Option.some.inj hq; omega)
  clear hr hc1 hb1 hg2
  go_wp2_with fail
  refine (spec_Runs _ _ _ vs (own_reads hown2) (by omega) hvo).mono ?_
  rintro e w3 ⟨A3, c3, rfl, hown3, hb_3⟩
  have hc3 := hc2.below hb_3
  have hb3 := hb2.trans (hb_3.mono hb2.size)
  have hp2 := hc2.lt
  have hz2' : w.heap.size ≤ w2.heap.size := hb2.size
  have hrl := runsOf_len vs
  have hrp := runsOf_pos hl1
  have hgood := runsOf_good hvo
  have hro : ∀ r ∈ runsOf vs, runOk r := fun r hr => ⟨(hgood r hr).1, by have h1 := (hgood r hr).2.1; omega, by have h2 := (hgood r hr).2.2; omega⟩
  clear hgood hb_3 hown2 hc2 hb2
  generalize runsOf vs = rs at *
  go_wp2_with fail
  refine (l1Below_any _ p hc3 8 (by omega) (by omega)).mono ?_
  rintro e w4 ⟨k, rfl, hk, hc4, hg4⟩
  have hb4 := hb3.grown hg4 hb3.size (fun q hq => by have := Option.some.inj hq; omega)
  have hown4 := own_cur hown3 hg4 hp2
  clear hc3 hb3 hg4 hown3
  rcases (show k = 0 ∨ k = 1 ∨ (k ≠ 0 ∧ k ≠ 1) by omega) with rfl | rfl | ⟨k0, k1⟩
  · go_wp2_with fail
    refine (l1Int_lit w4 p hc4 3 5 [0, -1, 64, 65, 9223372036854775807] rfl (by omega) (by omega) (by simp [I64])).mono ?_
    rintro e w5 ⟨x, rfl, hx, hc5, hg5⟩
    have hb5 := hb4.grown hg5 hb4.size (fun q hq => by have := Option.some.inj hq; omega)
    have hown5 := own_cur hown4 hg5 hp2
    clear hc4 hb4 hg5 hown4
    obtain ⟨g, cap, hv, hg, hgl⟩ := hown5.form (by omega)
    obtain ⟨rfl, rfl⟩ : A3 = some ⟨g, 0, none⟩ ∧ c3 = cap := by injection hv with h1 h2 h3; exact ⟨h1, h3⟩
    clear hv
    cases rs with
    | nil => simp at hrp
    | cons r tl =>
      obtain ⟨v, q⟩ := r
      obtain ⟨u0, hw0⟩ := own_cell (j := 3) hown5 (by simp at hrp ⊢; omega)
      have hf0 := hown5.frozenAt 3
      have hst := (hown5.stored 3 (.int .i64 x)).1
      rw [show (runCells ((v, q) :: tl)).set 3 (.int .i64 x) = runCells ((v, x) :: tl) by simp [runCells, runEnc]] at hst
      have hb6 : Below w.heap.size w (w5.setCell ⟨g, 3, none⟩ (.int .i64 x)) := hb5.setCell (show w.heap.size ≤ g by omega) _
      have hro2 : ∀ r ∈ (v, x) :: tl, runOk r := by
        intro r hr
        rcases List.mem_cons.1 hr with rfl | hr
        · exact ⟨(hro (v, q) (by simp)).1, hx⟩
        · exact hro r (by simp [hr])
      have hst2 := own_lower hst hz2'
      clear hown5 hst hro
      go_wp2
      go_ret
      exact ⟨_, _, (v, x) :: tl, rfl, by simp at hrl ⊢; omega, hro2, hst2, hb6⟩
  · go_wp2_with fail
    refine (l3Draw_any _ p hc4).mono ?_
    rintro e w5 ⟨v, rfl, hv, hc5, hg5⟩
    have hb5 := hb4.grown hg5 hb4.size (fun q hq => by have := Option.some.inj hq; omega)
    have hown5 := own_cur hown4 hg5 hp2
    clear hc4 hb4 hg5 hown4
    go_wp2_with fail
    refine (l1Below_any _ p hc5 3 (by omega) (by omega)).mono ?_
    rintro e w6 ⟨t, rfl, ht, hc6, hg6⟩
    have hb6 := hb5.grown hg6 hb5.size (fun q hq => by have := Option.some.inj hq; omega)
    have hown6 := own_cur hown5 hg6 hp2
    have hsz : w2.heap.size ≤ w6.heap.size := by
      rcases hown6.form (by omega) with ⟨g, cap, hv, hg, hgl⟩
      omega
    clear hc5 hb5 hg6 hown5
    go_wp2_with (at_builtin; go_loud (refine append_one rfl (.tmp 22) (.tmp 29) 40 rfl w2.heap.size 44 i0 _ 4 40 Try.underlying40 hi0 hz0 hz1 hz2 rfl (by omega) (by omega) A3 rs.length c3 _ rfl hown6 [.int .i64 v.ty, .int .i64 v.n, .string v.s, .int .i64 (1 + (t : Int))] _ rfl (by first | rfl | simp) rfl (by simp [Value.oneCell']) hsz (by omega) ?_); intro A7 c7 w7 hown7 hb7)
    rw [show runCells rs ++ [.int .i64 v.ty, .int .i64 v.n, .string v.s, .int .i64 (1 + (t : Int))] = runCells (rs ++ [(v, 1 + (t : Int))]) by simp [runCells, runEnc]] at hown7
    have hb8 := hb6.trans (hb7.mono hz2')
    have hln := Lib.hid (show (rs ++ [(v, 1 + (t : Int))]).length = rs.length + 1 by simp)
    have hro2 : ∀ r ∈ rs ++ [(v, 1 + (t : Int))], runOk r := by
      intro r hr
      rcases List.mem_append.1 hr with hr | hr
      · exact hro r hr
      · rw [List.mem_singleton.1 hr]; exact ⟨hv, by omega, by omega⟩
    replace hown7 := own_lower hown7 hz2'
    clear hown6 hb6 hb7 hro hc6
    go_wp2
    go_ret
    exact ⟨_, _, rs ++ [(v, 1 + (t : Int))], by rw [hln.out]; rfl, by rw [hln.out]; omega, hro2, by rw [hln.out]; exact hown7, hb8⟩
  · have b0 : ((k : Int) == 0) = false := beq_eq_false_iff_ne.2 (by omega)
    have b1 : ((k : Int) == 1) = false := beq_eq_false_iff_ne.2 (by omega)
    have hown5 := own_lower hown4 hz2'
    clear k0 k1 hown4
    go_wp2
    go_ret
    exact ⟨_, _, rs, rfl, by omega, hro, hown5, hb4⟩

end Go.Proofs.Ytgpimlmolcjeoaa
