/-
  Rows that a law marks: how long they are all together, in which blocks their copies lie, and what markRowS turns.
-/
import Derived.Test.YtpchffcecmoieaaRows2
import Derived.Test.YtpchffcecmoieaaThree
namespace Go.Proofs.Ytpchffcecmoieaa
open Go.RowKit Go.Deep
set_option linter.unusedVariables false
set_option maxRecDepth 100000

def sumLen (rs : List RowV) : Nat := (rs.map fun r => r.l.length).sum
theorem sumLen_snoc {rs : List RowV} {k : Nat} {x : RowV} (h : rs[k]? = some x) : sumLen (rs.take (k + 1)) = sumLen (rs.take k) + x.l.length := by
  rw [List.take_add_one, h]
  simp [sumLen]
theorem sumLen_le (rs : List RowV) (k : Nat) : sumLen (rs.take k) ≤ sumLen rs := by
  induction rs generalizing k with
  | nil => simp [sumLen]
  | cons r rs ih =>
    cases k with
    | zero => simp [sumLen]
    | succ k =>
      have := ih k
      simp only [sumLen, List.take_succ_cons, List.map_cons, List.sum_cons] at this ⊢
      omega
theorem sumLen_key {a b : List RowV} (h : a.map RowV.key = b.map RowV.key) : sumLen a = sumLen b := by
  have e : ∀ rs : List RowV, sumLen rs = ((rs.map RowV.key).map fun p => p.2.length).sum := fun rs => by rw [List.map_map]; rfl
  rw [e, e, h]
/-- A row's values lie in a block of their own. -/
def InnOwn (w : World) (lo : Nat) (r : RowV) : Prop := ∃ b, r.A = some ⟨b, 0, none⟩ ∧ lo ≤ b ∧ r.c = r.l.length ∧ w.ownsRow lo 41 3 (.slice (some ⟨b, 0, none⟩) r.l.length r.l.length) r.l.length (valCells r.l)
def Apart (r q : RowV) : Prop := r.A ≠ q.A
theorem InnOwn.step {w w' : World} {lo : Nat} {r : RowV} (h : InnOwn w lo r) (hb : Below w.heap.size w w') : InnOwn w' lo r := by
  obtain ⟨b, h1, h2, h3, h4⟩ := h
  exact ⟨b, h1, h2, h3, own_step h4 hb⟩
theorem InnOwn.grown {w w' : World} {lo : Nat} {r : RowV} {p : Nat} (h : InnOwn w lo r) (hg : w.grownBy w' (some p)) (hne : p < lo ∨ r.A ≠ some ⟨p, 0, none⟩) : InnOwn w' lo r := by
  obtain ⟨b, h1, h2, h3, h4⟩ := h
  refine ⟨b, h1, h2, h3, h4.kept hg (.inr fun he => ?_)⟩
  have hbp : b = p := by simpa [Value.ownBlock] using he
  rcases hne with h5 | h5
  · omega
  · exact h5 (by rw [h1, hbp])
theorem InnOwn.reads {w : World} {lo : Nat} {r : RowV} (h : InnOwn w lo r) : Reads w w.heap.size 3 r.A r.l.length (valCells r.l) := by
  obtain ⟨b, h1, h2, h3, h4⟩ := h
  rw [h1]
  exact own_reads h4
theorem grown_cell (w : World) (p j : Nat) (u : Value) : w.grownBy (w.setCell ⟨p, j, none⟩ u) (some p) :=
  ⟨rfl, rfl, rfl, by simp, fun k hk hne => blk_setCell_other w ⟨p, j, none⟩ u k (fun e => hne (congrArg some e))⟩
/-- Only the blocks from lo on, below hi, have turned. -/
structure Turned (lo hi : Nat) (w w' : World) : Prop where
  os : w'.os = w.os
  tape : w'.tape = w.tape
  output : w'.output = w.output
  size : w.heap.size ≤ w'.heap.size
  block : ∀ k, k < w.heap.size → ¬ (lo ≤ k ∧ k < hi) → w'.heap[k]? = w.heap[k]?
theorem Turned.refl (lo hi : Nat) (w : World) : Turned lo hi w w := ⟨rfl, rfl, rfl, Nat.le_refl _, fun _ _ _ => rfl⟩
theorem Turned.trans {lo hi : Nat} {a b c : World} (h : Turned lo hi a b) (k : Turned lo hi b c) : Turned lo hi a c :=
  ⟨k.os.trans h.os, k.tape.trans h.tape, k.output.trans h.output, Nat.le_trans h.size k.size, fun i hi' hn => (k.block i (Nat.lt_of_lt_of_le hi' h.size) hn).trans (h.block i hi' hn)⟩
theorem Turned.of_grown {lo hi p : Nat} {w w' : World} (hg : w.grownBy w' (some p)) (h1 : lo ≤ p) (h2 : p < hi) : Turned lo hi w w' :=
  ⟨hg.os, hg.tape, hg.output, hg.size, fun k hk hn => hg.block k hk (fun e => hn (by have := Option.some.inj e; omega))⟩
theorem Turned.of_below {lo hi : Nat} {w w' : World} (hb : Below w.heap.size w w') : Turned lo hi w w' := ⟨hb.os, hb.tape, hb.output, hb.size, fun k hk _ => hb.block k hk⟩
theorem Reads.turned {w w' : World} {B size n lo hi : Nat} {A : Option Addr} {xs : List Value} (h : Reads w B size A n xs) (ht : Turned lo hi w w') (hB : B ≤ lo) (hs : B ≤ w.heap.size) : Reads w' B size A n xs :=
  h.keep fun p hp => World.cell?_of_block (ht.block p.block (by omega) (by omega))
theorem Below.turned {B lo hi : Nat} {w0 w w' : World} (h : Below B w0 w) (ht : Turned lo hi w w') (hB : B ≤ lo) (hs : B ≤ w.heap.size) : Below B w0 w' :=
  ⟨ht.os.trans h.os, ht.tape.trans h.tape, ht.output.trans h.output, Nat.le_trans h.size ht.size, fun k hk => (ht.block k (by omega) (by omega)).trans (h.block k hk)⟩
theorem Owned.turned {w w' : World} {lo hi lo' hi' size n c : Nat} {e : TypeId} {A : Option Addr} {xs : List Value} (h : Owned w lo hi e size A n c xs) (ht : Turned lo' hi' w w') (hd : hi' ≤ lo ∨ hi ≤ lo') : Owned w' lo hi e size A n c xs := by
  refine ⟨⟨h.1.1, ?_⟩, h.2⟩
  rcases h.1.2 with hz | ⟨g, cap, cur, h1, h2, h3, h4⟩
  · exact .inl hz
  · have hg : g < hi := h.2 g (by rw [h1]; simp [Value.ownBlock])
    have hl : g < w.heap.size := by
      rcases Nat.lt_or_ge g w.heap.size with h5 | h5
      · exact h5
      · rw [Array.getElem?_eq_none h5] at h3; cases h3
    exact .inr ⟨g, cap, cur, h1, h2, (ht.block g hl (by omega)).trans h3, h4⟩
set_option maxHeartbeats 800000 in
theorem szRowS_sum (w : World) (A : Option Addr) (c : Nat) (rs : List RowV) (hr : Reads w w.heap.size 2 A rs.length (rs.flatMap RowV.enc)) (hin : RowsIn w w.heap.size rs) (hok : ∀ r ∈ rs, r.l.length ≤ maxLen ∧ ∀ x ∈ r.l, x.ok) (hl : rs.length ≤ maxLen) (left : Int) (h0 : 0 ≤ left) (h1 : left ≤ 1048576) :
    Calls Try.prog 4 #[.slice A rs.length c, .int .i64 left] w fun e w' => ∃ r : Int, e = .returned (.int .i64 r) ∧ (r ≤ left ∧ (0 ≤ r → (rs.length : Int) + sumLen rs + r ≤ left ∧ Small rs)) ∧ Below w.heap.size w w' := by
  unfold maxLen at hl
  have HOK := Lib.hid hok
  have HIN := Lib.hid hin
  clear hok hin
  by_cases hn : left < rs.length
  · go_enter Try.func4, Try.ntmps4
    go_wp2
    go_ret
    exact ⟨-1, rfl, ⟨by omega, fun h => absurd h (by omega)⟩, Below.refl _ _⟩
  go_enter Try.func4, Try.ntmps4
  go_wp2
  go_loopw [1, 5] (fun q i wr => ∃ (k : Nat) (l : Int), i = .int .i64 k ∧ q = .int .i64 l ∧ k ≤ rs.length ∧ 0 ≤ l ∧ (rs.length : Int) + sumLen (rs.take k) + l ≤ left ∧ Hid (Small (rs.take k)) ∧ Below w.heap.size w wr) (fun _ i _ => rs.length - (intOf i).toNat)
  case atStart => exact ⟨0, left - rs.length, rfl, rfl, by omega, by omega, by simp [sumLen]; omega, Lib.hid (by simp [Small]), Below.refl _ _⟩
  case round =>
    obtain ⟨k, l, rfl, rfl, hk, hl0, hsum, hsm, hbl⟩ := hrel
    by_cases hlt : k < rs.length
    · obtain ⟨b, off, x, rfl, hb, hx, hc0, hc1⟩ := hr.row hlt
      have hxm := List.mem_of_getElem? hx.out
      have hxo := HOK.out x hxm
      have hxr := (HIN.out x hxm).below hbl (Nat.le_refl _)
      have hd0 : wr.cell? ⟨b, off + k * 2, none⟩ = some (.int .i64 x.id) := (hbl.cell (p := ⟨b, off + k * 2, none⟩) hb).trans hc0
      have hd1 : wr.cell? ⟨b, off + k * 2 + 1, none⟩ = some (.slice x.A x.l.length x.c) := (hbl.cell (p := ⟨b, off + k * 2 + 1, none⟩) hb).trans hc1
      clear hr hc0 hc1
      go_wp2_with fail
      refine (szRow_any _ _ _ _ _ (hxr.more hbl.size) hxo.2 hxo.1 l hl0 (by omega)).mono ?_
      rintro e w1 ⟨q, rfl, ⟨hq1, hq2⟩, hb1⟩
      have hbl1 := hbl.trans (hb1.mono hbl.size)
      have HQ := Lib.hid hq2
      clear hd0 hd1 hb1 hbl hxr hq2
      by_cases hneg : q < 0
      · go_wp2
        go_ret
        exact ⟨-1, rfl, ⟨by omega, fun h => absurd h (by omega)⟩, hbl1⟩
      · have hq3 := HQ.out (by omega)
        have hsm2 : Hid (Small (rs.take (k + 1))) := Lib.hid (by
          intro r hr
          rw [List.take_add_one, hx.out] at hr
          rcases List.mem_append.1 hr with h | h
          · exact hsm.out r h
          · simp at h; subst h; exact ⟨by omega, hxo.2⟩)
        have hss := sumLen_snoc hx.out
        have hq5 : (x.l.length : Int) + q ≤ l := by omega
        have hxo' := Lib.hid hxo
        clear hxo hq3 hx hxm
        go_wp2
        go_roundw
        case rel => exact ⟨k + 1, q, by go_num, rfl, by omega, by omega, by omega, hsm2, hbl1⟩
        case measure => simp [intOf]; omega
    · have hkn : k = rs.length := by omega
      subst hkn
      go_wp2
      go_ret
      have := hsm.out
      rw [List.take_of_length_le (Nat.le_refl _)] at this hsum
      exact ⟨l, rfl, ⟨by omega, fun _ => ⟨hsum, this⟩⟩, hbl⟩
set_option maxHeartbeats 1600000 in
theorem toRowS_own (w : World) (A : Option Addr) (c : Nat) (rs : List RowV) (hr : Reads w w.heap.size 2 A rs.length (rs.flatMap RowV.enc)) (hin : RowsIn w w.heap.size rs) (hok : Small rs) (hl : rs.length ≤ 1099511627776) :
    Calls Try.prog 6 #[.slice A rs.length c] w fun e w' => ∃ (g : Nat) (rs' : List RowV), e = .returned (.slice (some ⟨g, 0, none⟩) rs.length rs.length) ∧
      w'.ownsRow w.heap.size 39 2 (.slice (some ⟨g, 0, none⟩) rs.length rs.length) rs.length (rs'.flatMap RowV.enc) ∧ rs'.map RowV.key = rs.map RowV.key ∧ g = w.heap.size ∧ (∀ r ∈ rs', InnOwn w' (w.heap.size + 1) r) ∧ rs'.Pairwise Apart ∧ Below w.heap.size w w' := by
  obtain ⟨i0, hi0, hz0, hz1, hz2⟩ := info_parts info_Row
  have HOK := Lib.hid hok
  have HIN := Lib.hid hin
  clear hok hin
  go_enter Try.func6, Try.ntmps6
  go_wp2_with (at_make; refine wpList_make_full _ rfl _ _ 26 rfl w.heap.size 39 i0 _ 2 Try.underlying26 hi0 hz0 hz1 _ _ _ _ rs.length rfl rfl rfl rfl (by rw [hz2]; omega) (by unfold maxLen; omega) (Nat.le_refl _) ?_; intro w1 hown hg)
  obtain ⟨zs, hzs⟩ : ∃ zs, zs = (madeCells (Value.agg #[.int .i64 0, .slice none 0 0]).cells (rs.length * 2)).toList := ⟨_, rfl⟩
  rw [← hzs] at hown
  clear hzs
  have hzl : zs.length = rs.length * 2 := hown.1
  have HZ := Lib.hid hzl
  clear hzl
  have hbl : Below w.heap.size w w1 := (Below.refl _ _).grown hg (Nat.le_refl _) (fun k hk => by cases hk)
  have hlt1 : w.heap.size < w1.heap.size := (hown.lt w.heap.size rfl).2
  clear hg
  go_loopw [4] (fun i wr => ∃ (k : Nat) (qs : List RowV), k ≤ rs.length ∧ i = .int .i64 k ∧ wr.ownsRow w.heap.size 39 2 (.slice (some ⟨w.heap.size, 0, none⟩) rs.length rs.length) rs.length (qs.flatMap RowV.enc ++ zs.drop (k * 2)) ∧ Hid (qs.length = k ∧ qs.map RowV.key = (rs.take k).map RowV.key ∧ (∀ r ∈ qs, InnOwn wr (w.heap.size + 1) r) ∧ qs.Pairwise Apart) ∧ w.heap.size < wr.heap.size ∧ Below w.heap.size w wr)
    (fun i _ => rs.length - (intOf i).toNat)
  case atStart => exact ⟨0, [], Nat.zero_le _, rfl, by simpa using hown, Lib.hid ⟨rfl, by simp, by simp, List.Pairwise.nil⟩, hlt1, hbl⟩
  case round =>
    clear hown hbl hlt1
    obtain ⟨k, qs, hk, rfl, hown, hQ, hgt, hbl⟩ := hrel
    by_cases hlt : k < rs.length
    · obtain ⟨b, off, x, rfl, hb, hx, hc0, hc1⟩ := hr.row hlt
      have hxm := List.mem_of_getElem? hx.out
      have hxo := HOK.out x hxm
      have hxr := (HIN.out x hxm).below hbl (Nat.le_refl _)
      have hxl : x.l.length ≤ 1099511627776 := by have := hxo.1; omega
      have hd0 : wr.cell? ⟨b, off + k * 2, none⟩ = some (.int .i64 x.id) := (hbl.cell (p := ⟨b, off + k * 2, none⟩) hb).trans hc0
      have hd1 : wr.cell? ⟨b, off + k * 2 + 1, none⟩ = some (.slice x.A x.l.length x.c) := (hbl.cell (p := ⟨b, off + k * 2 + 1, none⟩) hb).trans hc1
      clear hr hc0 hc1 hxo
      go_wp2_with fail
      refine (toRow_any _ x.id _ _ _ (hxr.more hbl.size) hxl).mono ?_
      rintro e w2 ⟨g2, rfl, hown', hb2⟩
      have hg2 : wr.heap.size ≤ g2 := (hown'.lt g2 rfl).1
      have hbl2 := hbl.trans (hb2.mono hbl.size)
      have hown2 := own_step hown hb2
      have hz2' := hb2.size
      have hq2 : ∀ r ∈ qs ++ [(⟨x.id, some ⟨g2, 0, none⟩, x.l.length, x.l⟩ : RowV)], InnOwn w2 (w.heap.size + 1) r := by
        intro r hr
        rcases List.mem_append.1 hr with h | h
        · exact (hQ.out.2.2.1 r h).step hb2
        · simp at h
          subst h
          exact ⟨g2, rfl, by omega, rfl, own_lower hown' (by omega)⟩
      have hp2 : (qs ++ [(⟨x.id, some ⟨g2, 0, none⟩, x.l.length, x.l⟩ : RowV)]).Pairwise Apart := by
        refine List.pairwise_append.2 ⟨hQ.out.2.2.2, List.pairwise_singleton _ _, fun r hr y hy => ?_⟩
        simp at hy
        subst hy
        obtain ⟨b1, e1, _, _, ho⟩ := hQ.out.2.2.1 r hr
        intro he
        rw [e1] at he
        injection he with he
        injection he with he
        have := (ho.lt b1 (by simp [Value.ownBlock])).2
        omega
      clear hd0 hd1 hb2 hbl hown hown' hxr
      obtain ⟨u0, hw0⟩ := own_cell (j := k * 2) hown2 (by omega)
      obtain ⟨u1, hw1⟩ := own_cell (j := k * 2 + 1) hown2 (by omega)
      have hf0 := hown2.frozenAt (k * 2)
      have hf1 := hown2.frozenAt (k * 2 + 1)
      obtain ⟨hst, hgr⟩ := own_set2 (.int .i64 x.id) (.slice (some ⟨g2, 0, none⟩) x.l.length x.l.length) hown2 (by rw [flatMap_length_u RowV.enc 2 (fun _ => rfl), hQ.out.1]) (by have := HZ.out; omega)
      have hq4 : ∀ r ∈ qs ++ [(⟨x.id, some ⟨g2, 0, none⟩, x.l.length, x.l⟩ : RowV)], InnOwn ((w2.setCell ⟨w.heap.size, k * 2, none⟩ (.int .i64 x.id)).setCell ⟨w.heap.size, k * 2 + 1, none⟩ (.slice (some ⟨g2, 0, none⟩) x.l.length x.l.length)) (w.heap.size + 1) r := fun r hr => ((hq2 r hr).grown (grown_cell _ _ _ _) (by omega)).grown (grown_cell _ _ _ _) (by omega)
      have hq3 := Lib.hid (And.intro (show (qs ++ [⟨x.id, some ⟨g2, 0, none⟩, x.l.length, x.l⟩] : List RowV).length = k + 1 by simp [hQ.out.1]) (And.intro (show (qs ++ [⟨x.id, some ⟨g2, 0, none⟩, x.l.length, x.l⟩] : List RowV).map RowV.key = (rs.take (k + 1)).map RowV.key by rw [List.take_add_one, hx.out, List.map_append, List.map_append, hQ.out.2.1]; simp [RowV.key]) (And.intro hq4 hp2)))
      rw [show qs.flatMap RowV.enc ++ [.int .i64 x.id, .slice (some ⟨g2, 0, none⟩) x.l.length x.l.length] = (qs ++ [⟨x.id, some ⟨g2, 0, none⟩, x.l.length, x.l⟩] : List RowV).flatMap RowV.enc by simp [RowV.enc], show k * 2 + 2 = (k + 1) * 2 from by omega] at hst
      have hb3 := hbl2.grown hgr hbl2.size (fun q hq => by injection hq with hq; omega)
      have hgt2 : w.heap.size < ((w2.setCell ⟨w.heap.size, k * 2, none⟩ (.int .i64 x.id)).setCell ⟨w.heap.size, k * 2 + 1, none⟩ (.slice (some ⟨g2, 0, none⟩) x.l.length x.l.length)).heap.size := by simp; omega
      clear hown2 hbl2 hgr hQ hq2 hq4 hp2 hx hxm hg2 hz2' hgt
      go_wp2
      go_roundw
      case rel => exact ⟨k + 1, _, by omega, by go_num, hst, hq3, hgt2, hb3⟩
      case measure => simp [intOf]; omega
    · have hkn : k = rs.length := by omega
      subst hkn
      go_wp2
      go_ret
      have := HZ.out
      have h2 := hQ.out
      rw [List.take_of_length_le (Nat.le_refl _)] at h2
      rw [List.drop_of_length_le (by omega), List.append_nil] at hown
      exact ⟨w.heap.size, qs, rfl, hown, h2.2.1, rfl, h2.2.2.1, h2.2.2.2, hbl⟩
theorem rows_split {rs : List RowV} {j : Nat} {x : RowV} (h : rs[j]? = some x) : (rs.flatMap RowV.enc).drop (j * 2) = .int .i64 x.id :: .slice x.A x.l.length x.c :: (rs.flatMap RowV.enc).drop ((j + 1) * 2) := by
  have hl : (rs.flatMap RowV.enc).length = rs.length * 2 := flatMap_length_u _ 2 (fun _ => rfl) _
  have hj : j < rs.length := (List.getElem?_eq_some_iff.1 h).1
  have h0 := flatMap_get_u RowV.enc 2 (fun _ => rfl) rs j 0 (by omega)
  have h1 := flatMap_get_u RowV.enc 2 (fun _ => rfl) rs j 1 (by omega)
  rw [h] at h0 h1
  simp only [Option.bind_some, RowV.enc, List.getElem?_cons_zero, List.getElem?_cons_succ] at h0 h1
  obtain ⟨k0, e0⟩ := List.getElem?_eq_some_iff.1 h0
  obtain ⟨k1, e1⟩ := List.getElem?_eq_some_iff.1 h1
  rw [List.drop_eq_getElem_cons (i := j * 2) k0, List.drop_eq_getElem_cons (i := j * 2 + 1) k1]
  exact List.cons_eq_cons.2 ⟨e0, List.cons_eq_cons.2 ⟨e1, by rw [show (j + 1) * 2 = j * 2 + 1 + 1 by omega]⟩⟩
set_option maxHeartbeats 1600000 in
theorem markRowS_any (w : World) (lo hi n : Nat) (rs : List RowV) (hn : rs.length = n) (hown : w.ownsRow lo 39 2 (.slice (some ⟨lo, 0, none⟩) n n) n (rs.flatMap RowV.enc)) (hin : ∀ r ∈ rs, InnOwn w (lo + 1) r) (hp : rs.Pairwise Apart) (hhi : w.heap.size ≤ hi ∨ ((∀ r ∈ rs, ∀ b, r.A = some ⟨b, 0, none⟩ → b < hi) ∧ lo < hi)) (k : Nat) (hk : k + n + 3 * sumLen rs ≤ 1099511627776) :
    Calls Try.prog 10 #[.slice (some ⟨lo, 0, none⟩) n n, .int .i64 (k : Int)] w fun e w' => ∃ q : Nat, e = .returned (.int .i64 (q : Int)) ∧ Turned lo hi w w' := by
  have hbs : (∀ r ∈ rs, ∀ b, r.A = some ⟨b, 0, none⟩ → b < hi) ∧ lo < hi := by
    rcases hhi with h | h
    · have hl : lo < w.heap.size := (hown.lt lo (by simp [Value.ownBlock])).2
      refine ⟨fun r hr b hb => ?_, by omega⟩
      obtain ⟨b', h1, _, _, h4⟩ := hin r hr
      rw [h1] at hb
      injection hb with hb
      injection hb with hb
      have := (h4.lt b' (by simp [Value.ownBlock])).2
      omega
    · exact h
  have HB := Lib.hid hbs
  have HIN := Lib.hid hin
  have HP := Lib.hid hp
  have HN := Lib.hid hn
  clear hin hp hn hhi hbs
  go_enter Try.func10, Try.ntmps10
  go_wp2
  go_loopw [1, 5] (fun q i wr => ∃ (j t : Nat) (ms : List Value), j ≤ n ∧ i = .int .i64 (j : Int) ∧ q = .int .i64 (t : Int) ∧ t ≤ k + j + 3 * sumLen (rs.take j) ∧ wr.ownsRow lo 39 2 (.slice (some ⟨lo, 0, none⟩) n n) n (ms ++ (rs.flatMap RowV.enc).drop (j * 2)) ∧ ms.length = j * 2 ∧ Hid (∀ r ∈ rs.drop j, InnOwn wr (lo + 1) r) ∧ Turned lo hi w wr) (fun _ i _ => n - (intOf i).toNat)
  case atStart => exact ⟨0, k, [], Nat.zero_le _, rfl, rfl, by simp [sumLen], by simpa using hown, rfl, Lib.hid (by simpa using HIN.out), Turned.refl _ _ _⟩
  case round =>
    clear hown
    obtain ⟨j, t, ms, hj, rfl, rfl, ht, hown, hms, HI, hT⟩ := hrel
    by_cases hlt : j < n
    · obtain ⟨x, hx⟩ : ∃ x, rs[j]? = some x := ⟨rs[j]'(by rw [HN.out]; exact hlt), List.getElem?_eq_getElem _⟩
      have hsp := rows_split hx
      have hxd : rs.drop j = x :: rs.drop (j + 1) := by
        obtain ⟨h1, h2⟩ := List.getElem?_eq_some_iff.1 hx
        rw [List.drop_eq_getElem_cons h1, h2]
      have hsl := sumLen_snoc hx
      have hsm := sumLen_le rs (j + 1)
      obtain ⟨b, hA, hlb, hc, hob⟩ := HI.out x (by rw [hxd]; simp)
      have hbh := HB.out.1 x (List.mem_of_getElem? hx) b hA
      have hlh := HB.out.2
      have hrest := HI.out
      have hpw := HP.out
      rw [hsp] at hown
      have hlenA : (ms ++ (Value.int .i64 x.id :: Value.slice x.A x.l.length x.c :: (rs.flatMap RowV.enc).drop ((j + 1) * 2))).length = n * 2 := hown.1
      have hcell0 := hown.cells (g := lo) rfl (j * 2) (.int .i64 x.id) (by rw [List.getElem?_append_right (by omega), hms, Nat.sub_self]; rfl)
      have hcell1 := hown.cells (g := lo) rfl (j * 2 + 1) (.slice x.A x.l.length x.c) (by rw [List.getElem?_append_right (by omega), hms, show j * 2 + 1 - j * 2 = 1 by omega]; rfl)
      rw [add_form] at hcell0 hcell1
      simp only [Nat.zero_add] at hcell0 hcell1
      have hf0 := hown.frozenAt (j * 2)
      obtain ⟨hst, hgr⟩ := hown.stored (j * 2) (.int .i64 (t : Int))
      rw [List.set_append_right _ _ (by omega), hms, Nat.sub_self, List.set_cons_zero] at hst
      have hI1 : ∀ r ∈ rs.drop j, InnOwn (wr.setCell ⟨lo, j * 2, none⟩ (.int .i64 (t : Int))) (lo + 1) r := fun r hr => (hrest r hr).grown hgr (.inl (by omega))
      have hT1 := hT.trans (Turned.of_grown hgr (Nat.le_refl _) hlh)
      obtain ⟨b2, hA2, _, _, hob2⟩ := hI1 x (by rw [hxd]; simp)
      obtain rfl : b = b2 := by rw [hA] at hA2; injection hA2 with h; injection h
      have hsz1 : lo + 1 ≤ (wr.setCell ⟨lo, j * 2, none⟩ (.int .i64 (t : Int))).heap.size := by have := (hob2.lt b (by simp [Value.ownBlock])).2; omega
      have hkey : ∀ r ∈ rs.drop (j + 1), r.A ≠ some ⟨b, 0, none⟩ := by
        intro r hr
        have h1 : (rs.drop j).Pairwise Apart := List.Pairwise.sublist (List.drop_sublist _ _) hpw
        rw [hxd] at h1
        have h2 := (List.pairwise_cons.1 h1).1 r hr
        intro he
        exact h2 (by rw [hA, he])
      have HI1 := Lib.hid (fun r hr => hI1 r (by rw [hxd]; exact List.mem_cons_of_mem _ hr) : ∀ r ∈ rs.drop (j + 1), InnOwn (wr.setCell ⟨lo, j * 2, none⟩ (.int .i64 (t : Int))) (lo + 1) r)
      have HK := Lib.hid hkey
      rw [hA, hc] at hcell1
      have hc1' : (wr.setCell ⟨lo, j * 2, none⟩ (.int .i64 (t : Int))).cell? ⟨lo, j * 2 + 1, none⟩ = some (.slice (some ⟨b, 0, none⟩) x.l.length x.l.length) := (World.cell?_setCell_other _ _ _ _ (by simp)).trans hcell1
      clear HI hrest hpw hI1 hkey hsp hxd hx hob hown hgr hT hcell1 hlenA
      go_wp2_with fail
      refine (markValS_any _ (lo + 1) x.l.length x.l.length _ _ _ (t + 1) (by omega) (by omega) hob2 hsz1).mono ?_
      rintro e w2 ⟨rfl, -, hg2⟩
      have hg2' : (wr.setCell ⟨lo, j * 2, none⟩ (.int .i64 (t : Int))).grownBy w2 (some b) := hg2
      have hst2 := hst.kept hg2' (.inr (by simp [Value.ownBlock]; omega))
      have HI2 : Hid (∀ r ∈ rs.drop (j + 1), InnOwn w2 (lo + 1) r) := Lib.hid fun r hr => (HI1.out r hr).grown hg2' (.inr (HK.out r hr))
      have hT2 := hT1.trans (Turned.of_grown hg2' (by omega) hbh)
      rw [show ms ++ (Value.int .i64 (t : Int) :: Value.slice x.A x.l.length x.c :: (rs.flatMap RowV.enc).drop ((j + 1) * 2)) = (ms ++ [Value.int .i64 (t : Int), Value.slice x.A x.l.length x.c]) ++ (rs.flatMap RowV.enc).drop ((j + 1) * 2) by simp] at hst2
      have hml : (ms ++ [Value.int .i64 (t : Int), Value.slice x.A x.l.length x.c]).length = (j + 1) * 2 := by simp; omega
      clear HI1 HK hob2 hst hg2 hg2' hT1 hc1' hcell0 hf0
      go_wp2
      go_roundw
      case rel => exact ⟨j + 1, t + 1 + x.l.length * 3, _, by omega, by go_num, by go_num, by omega, hst2, hml, HI2, hT2⟩
      case measure => simp [intOf]; omega
    · go_wp2
      go_ret
      exact ⟨t, rfl, hT⟩
end Go.Proofs.Ytpchffcecmoieaa
