/-
  Rows of bytes that a function makes for itself: by append, or out of a string. Each law names its conditions.
-/
import Derived.Test.YtajaobebcmlhaaaDoorXBase
import Derived.Laws.IdiomCopy
import Derived.Laws.AppendOwn
import Derived.Laws.BytesArg
import Derived.Lib.ConvBytes
set_option linter.unusedVariables false
set_option linter.unusedSimpArgs false
namespace Go.Proofs.YtajaobebcmlhaaaDoor.XB
open Go.RowKit Go.Proofs.YtajaobebcmlhaaaDoorW.PrintWords
def bV (b : UInt8) : Value := .int .u8 b.toNat
theorem bV_one (l : List UInt8) : ∀ u ∈ l.map bV, u.oneCell' = true := by
  intro u hu
  obtain ⟨b, _, rfl⟩ := List.mem_map.1 hu
  rfl
/-- A row that came of a string: its mark stands behind its cells. -/
def CRow (W : World) (base : Nat) (e : TypeId) (v : Value) (l : List UInt8) : Prop :=
  ∃ g cap cur, v = .slice (some ⟨g, 0, none⟩) l.length cap ∧ base ≤ g ∧ W.heap[g]? = some (.cells cur e (cap, cap + 1)) ∧ l.length ≤ cap ∧ cap ≤ maxLen ∧ cur.size = cap ∧ cur.toList.take l.length = l.map bV
def BRow (W : World) (base : Nat) (e : TypeId) (v : Value) (l : List UInt8) : Prop := W.ownsRow base e 1 v l.length (l.map bV) ∨ CRow W base e v l
theorem brow_nil (W : World) (base : Nat) (e : TypeId) : BRow W base e (.slice none 0 0) [] := .inl (World.ownsRow_nil W base e 1)
theorem BRow.kept {W W' : World} {base : Nat} {e : TypeId} {v : Value} {l : List UInt8} {row : Option Nat} (h : BRow W base e v l) (hg : W.grownBy W' row) (hne : v.ownBlock = none ∨ v.ownBlock ≠ row) : BRow W' base e v l := by
  rcases h with h | ⟨g, cap, cur, rfl, h1, h2, h3⟩
  · exact .inl (h.kept hg hne)
  · refine .inr ⟨g, cap, cur, rfl, h1, blk_grown h2 hg ?_, h3⟩
    rcases hne with hne | hne
    · cases hne
    · exact hne
theorem BRow.below {W W' : World} {base : Nat} {e : TypeId} {v : Value} {l : List UInt8} (h : BRow W base e v l) (hb : Below W.heap.size W W') : BRow W' base e v l := by
  rcases hv : v.ownBlock with _ | k
  · exact h.kept (row := none) ⟨hb.os, hb.tape, hb.output, hb.size, fun i hi _ => hb.block i hi⟩ (.inl hv)
  · exact h.kept (row := none) ⟨hb.os, hb.tape, hb.output, hb.size, fun i hi _ => hb.block i hi⟩ (.inr (by rw [hv]; simp))
theorem BRow.slice {W : World} {base : Nat} {e : TypeId} {v : Value} {l : List UInt8} (h : BRow W base e v l) : ∃ a cap, v = .slice a l.length cap := by
  rcases h with ⟨_, ⟨rfl, hn⟩ | ⟨g, cap, cur, rfl, _⟩⟩ | ⟨g, cap, cur, rfl, _⟩
  · exact ⟨none, 0, by rw [hn]⟩
  · exact ⟨_, _, rfl⟩
  · exact ⟨_, _, rfl⟩
theorem BRow.ge {W : World} {base : Nat} {e : TypeId} {v : Value} {l : List UInt8} (h : BRow W base e v l) : ∀ k, v.ownBlock = some k → base ≤ k ∧ k < W.heap.size := by
  rcases h with h | ⟨g, cap, cur, rfl, h1, h2, _⟩
  · exact h.lt
  · intro k hk; cases hk; exact ⟨h1, blk_lt h2⟩
theorem heap_setCells {e : TypeId} {fr : Nat × Nat} (g : Nat) : ∀ (vs : List Value) (o : Nat) (cur : Array Value) (w : World), w.heap[g]? = some (.cells cur e fr) → o + vs.length ≤ cur.size →
    (w.setCells g o vs).heap[g]? = some (.cells (cur.toList.take o ++ vs ++ cur.toList.drop (o + vs.length)).toArray e fr)
  | [], o, cur, w, h, _ => by simp [World.setCells, h]
  | v :: r, o, cur, w, h, hl => by
    have h1 : (w.setCell ⟨g, o, none⟩ v).heap[g]? = some (.cells (cur.setIfInBounds o v) e fr) := by simp [World.setCell, Array.getElem?_modify, h]
    simp only [World.setCells]
    rw [heap_setCells g r (o + 1) _ _ h1 (by simp at hl ⊢; omega)]
    congr 2
    apply Array.toList_inj.1
    simp only [Array.toList_setIfInBounds, List.length_cons] at hl ⊢
    rw [List.take_set, List.drop_set_of_lt (by omega), List.take_add_one]
    have ho : o < cur.toList.length := by simp at hl ⊢; omega
    rw [List.getElem?_eq_getElem ho]
    simp only [Option.toList_some, List.append_assoc, List.cons_append, List.nil_append]
    rw [List.set_append_right _ _ (by simp; omega)]
    simp only [List.length_take, Nat.min_eq_left (Nat.le_of_lt ho), Nat.sub_self, List.set_cons_zero, List.append_assoc, List.cons_append, List.nil_append]
    rw [show o + 1 + r.length = o + (r.length + 1) by omega]
theorem setCells_grown (g : Nat) : ∀ (vs : List Value) (o : Nat) (w : World), w.grownBy (w.setCells g o vs) (some g)
  | [], o, w => ⟨rfl, rfl, rfl, Nat.le_refl _, fun _ _ _ => rfl⟩
  | v :: r, o, w => by
    have h := setCells_grown g r (o + 1) (w.setCell ⟨g, o, none⟩ v)
    refine ⟨h.os, h.tape, h.output, by simpa [World.setCell, World.setCells] using h.size, fun i hi hne => ?_⟩
    have h2 : (w.setCell ⟨g, o, none⟩ v).heap[i]? = w.heap[i]? := Below.heap_setCell w ⟨g, o, none⟩ v i (fun e => hne (congrArg some e))
    exact (h.block i (by simpa [World.setCell] using hi) hne).trans h2
section
variable {P : Program} (w : World)
theorem run_append_crow (t ty e : TypeId) (i : TypeInfo) (ht : P.underlying t = some (.slice e)) (hi : P.info? e = some i) (hs1 : i.size = 1)
    (g sLen cap : Nat) (cur : Array Value) (hg : w.heap[g]? = some (.cells cur e (cap, cap + 1))) (hc : cur.size = cap)
    (a : Addr) (m c : Nat) (news : List Value) (hl : news.length = m) (hnews : ∀ j u, news[j]? = some u → w.cell? (a.add j) = some u) (h1 : ∀ u ∈ news, u.oneCell' = true) (hroom : sLen + m ≤ cap) :
    (Builtin.append_ #[t, t] ty #[.slice (some ⟨g, 0, none⟩) sLen cap, .slice (some a) m c]).run P w = .ok (.slice (some ⟨g, 0, none⟩) (sLen + m) cap) (w.setCells g sLen news) := by
  have hf := run_firstCells_some (P := P) w 1 m a m c news (by rw [hl, Nat.mul_one]) hnews
  have hst := run_storeCells_cells (P := P) g sLen news 0 w (fun j hj => by rw [cell_of_row w g _ cur e _ hg]; simp; omega) (fun j hj => by
    have : ¬ (cap ≤ sLen + 0 + j) := by omega
    simp [World.frozen?, hg]; omega) h1
  simp only [Nat.add_zero] at hst
  simp [Builtin.append_, run_underlying ht, sizeOf, typeInfo, hi, Builtin.lenOf, hroom, hf, Addr.add_lit, hs1, hst]
theorem run_append_brow (base : Nat) (t ty e : TypeId) (i : TypeInfo) (ht : P.underlying t = some (.slice e)) (hi : P.info? e = some i) (hz : i.zero = some (.int .u8 0)) (hs1 : i.size = 1) (hb1 : i.bytes = 1)
    (v : Value) (l : List UInt8) (hrow : BRow w base e v l) (a : Addr) (c : Nat) (news : List UInt8) (hn0 : 0 < news.length) (hnews : ∀ j u, news[j]? = some u → w.cell? (a.add j) = some (bV u))
    (hlen : l.length + news.length ≤ 1099511627776) (hbase : base ≤ w.heap.size) :
    ∃ v' w', (Builtin.append_ #[t, t] ty #[v, .slice (some a) news.length c]).run P w = .ok v' w' ∧ BRow w' base e v' (l ++ news) ∧ w.grownBy w' v.ownBlock := by
  have hnews' : ∀ j u, (news.map bV)[j]? = some u → w.cell? (a.add j) = some u := by
    intro j u hj
    rw [List.getElem?_map] at hj
    obtain ⟨b, hb, rfl⟩ := Option.map_eq_some_iff.1 hj
    exact hnews j b hb
  rcases hrow with hrow | ⟨g, cap, cur, rfl, h1, h2, h3, h4, h5, h6⟩
  · obtain ⟨v', w', hr, ho, hg, _⟩ := run_append_own (P := P) w base t ty e i (.int .u8 0) 1 1 ht hi hz hs1 hb1 rfl (by decide) v l.length (l.map bV) hrow a news.length c (news.map bV) (by simp) hnews' (bV_one news) (by unfold maxLen; omega) (by omega) hbase
    exact ⟨v', w', hr, .inl (by simpa using ho), hg⟩
  · by_cases hroom : l.length + news.length ≤ cap
    · have hr := run_append_crow (P := P) w t ty e i ht hi hs1 g l.length cap cur h2 h5 a news.length c (news.map bV) (by simp) hnews' (bV_one news) hroom
      refine ⟨_, _, hr, .inr ⟨g, cap, _, by simp, h1, heap_setCells g _ _ _ _ h2 (by simp; omega), by simp; omega, h4, by simp; omega, ?_⟩, setCells_grown g _ _ _⟩
      simp only [h6, List.length_append, List.map_append]
      rw [List.take_left' (by simp)]
    · have holds : ∀ j u, (l.map bV)[j]? = some u → w.cell? ((⟨g, 0, none⟩ : Addr).add j) = some u := by
        intro j u hj
        rw [add_plain]
        refine (cell_of_row w g _ cur e _ h2).trans ?_
        show cur[j]? = _
        have hjl : j < (l.map bV).length := by
          rcases Nat.lt_or_ge j (l.map bV).length with h | h
          · exact h
          · rw [List.getElem?_eq_none h] at hj; cases hj
        rw [← h6, List.getElem?_take_of_lt (by simpa using hjl)] at hj
        simpa using hj
      have hr := run_append_grow (P := P) w t ty e i (.int .u8 0) ht hi hz ⟨g, 0, none⟩ l.length cap (l.map bV) (by simp [hs1]) holds a news.length c (news.map bV) (by simp [hs1]) hnews' (by omega) (by omega) (growslice_fits (by omega) (by rw [hb1]; omega))
      have hge := grownCap_ge w (l.length + news.length) cap e
      have hcm : grownCap w (l.length + news.length) cap e ≤ maxLen := grownCap_le_maxLen w _ _ e (by unfold maxLen; omega)
      refine ⟨_, _, hr, .inl ⟨by simp, .inr ⟨w.heap.size, _, _, by rw [List.length_append], hbase, heap_alloc_new w.drew _, by simpa using hge, hcm, ?_, ?_⟩⟩, ⟨rfl, rfl, rfl, by simp, fun k hk _ => heap_alloc_old w.drew _ k hk⟩⟩
      · simp [size_zeroCells, Value.cells]; omega
      · simp [Array.toList_append, List.take_append]; exact List.take_of_length_le (by simp)
end
theorem wpList_append_brow {P : Program} {w : World} {ops : Array Oper} {rest : List Oper} {o : Oper} {a : Act} {Q : Exit → Act → World → Prop} (hgd : o.guard = none) (s x : Operand) (t : TypeId)
    (ho : o.op = .call { callee := .builtin .append, args := #[s, x], argTypes := #[t, t] }) (base : Nat) (e : TypeId) (i : TypeInfo) (ht : P.underlying t = some (.slice e)) (hi : P.info? e = some i) (hz : i.zero = some (.int .u8 0)) (hs1 : i.size = 1) (hb1 : i.bytes = 1)
    (v : Value) (l : List UInt8) (hs : a.eval s = v) (hrow : BRow w base e v l) (ad : Addr) (c : Nat) (news : List UInt8) (hx : a.eval x = .slice (some ad) news.length c) (hn0 : 0 < news.length) (hnews : ∀ j u, news[j]? = some u → w.cell? (ad.add j) = some (bV u))
    (hlen : l.length + news.length ≤ 1099511627776) (hbase : base ≤ w.heap.size)
    (h : ∀ v' w', BRow w' base e v' (l ++ news) → w.grownBy w' v.ownBlock → wpList P ops Q rest (a.put o.dst v') w') : wpList P ops Q (o :: rest) a w := by
  obtain ⟨v', w', hr, h2, h3⟩ := run_append_brow (P := P) w base t o.type e i ht hi hz hs1 hb1 v l hrow ad c news hn0 hnews hlen hbase
  refine wpList_plain hgd fun K hK => ?_
  unfold Oper.wp execOp
  simp only [ho, resolve, invoke, builtin, Sem.run_bind, Sem.run_pure, Result.andThen_ok, List.map_toArray, List.map_cons, List.map_nil, hs, hx, hr]
  exact hK _ _ (h v' w' h2 h3)
theorem map_ofNat_toNat (l : List UInt8) : (l.map fun b => UInt8.ofNat (((b.toNat : Nat) : Int)).toNat) = l := by
  induction l with
  | nil => rfl
  | cons b l ih => simp
/-- A row's bytes, as a string. -/
theorem run_convert_brow {P : Program} {w : World} {base : Nat} {e : TypeId} {v : Value} {l : List UInt8} (h : BRow w base e v l) (src dst : TypeId) (hs : P.underlying src = some (.slice e)) (he : P.underlying e = some (.int .u8)) (hd : P.underlying dst = some .string) :
    (convert src dst v).run P w = .ok (.string ⟨l.toArray⟩) w := by
  have key : ∀ (g cap : Nat) (cur : Array Value) (fr : Nat × Nat), w.heap[g]? = some (.cells cur e fr) → cur.toList.take l.length = l.map bV → (convert src dst (.slice (some ⟨g, 0, none⟩) l.length cap)).run P w = .ok (.string ⟨l.toArray⟩) w := by
    intro g cap cur fr hg ht
    have := run_convert_bytes_arg (P := P) w src e hs he g 0 l.length cap (l.map fun b => ((b.toNat : Nat) : Int)) (by simp) (fun j hj => by
      rw [Nat.zero_add, cell_of_row w g j cur e fr hg]
      have h1 : (cur.toList.take l.length)[j]? = some (bV l[j]) := by rw [ht, List.getElem?_map, List.getElem?_eq_getElem hj]; rfl
      rw [List.getElem?_take_of_lt hj] at h1
      rw [show cur[j]? = some (bV l[j]) by simpa using h1]
      simp [bV, List.getD_eq_getElem?_getD, List.getElem?_eq_getElem hj]) dst hd
    rw [this]
    congr 2
    simp only [strOfNums, List.map_map]
    congr 2
    exact map_ofNat_toNat l
  rcases h with ⟨hl, ⟨rfl, hn⟩ | ⟨g, cap, cur, rfl, _, hg, _, _, _, ht⟩⟩ | ⟨g, cap, cur, rfl, _, hg, _, _, _, ht⟩
  · have : l = [] := List.eq_nil_of_length_eq_zero hn
    subst this
    exact run_convert_bytes_nil (P := P) w src e hs he 0 0 dst hd
  · exact key g cap cur _ hg (by simpa using ht)
  · exact key g cap cur _ hg ht
/-- A string's bytes, as a row of its own. -/
theorem brow_bytes (W : World) (e : TypeId) (s : ByteArray) (base : Nat) (hb : base ≤ W.heap.size) (hs : s.size ≤ maxLen) : BRow (Lib.bytesWorld W e s) base e (.slice (some ⟨W.heap.size, 0, none⟩) s.size (grownCap W s.size 0 e)) s.data.toList := by
  have hl : s.data.toList.length = s.size := data_length s
  have hge := grownCap_ge W s.size 0 e
  have hcs : (Lib.bytesCells W e s).size = grownCap W s.size 0 e := by
    simp [Lib.bytesCells]; have : s.data.size = s.size := rfl; omega
  refine .inr ⟨W.heap.size, grownCap W s.size 0 e, Lib.bytesCells W e s, by rw [hl], hb, ?_, by omega, grownCap_le_maxLen W _ _ e hs, hcs, ?_⟩
  · rw [Lib.bytesWorld_at_new, hcs]
  · rw [hl]
    simp only [Lib.bytesCells, Array.toList_append, Array.toList_map]
    rw [List.take_left' (by simp [hl])]
    rfl
end Go.Proofs.YtajaobebcmlhaaaDoor.XB
