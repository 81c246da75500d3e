/-
  The walks of the writer of bytes (package octets).
-/
import Derived.Test.YtbcepdacfmbekaaDoorKSl
import Derived.Test.YtbcepdacfmbekaaDoorKReg3
import Derived.Test.YtbcepdacfmbekaaDoorKFields
import Derived.StillTailTactics
namespace Go.Proofs.YtbcepdacfmbekaaDoor
open Go.RowKit

def byteCells (l : List UInt8) : List Value := l.map fun c => .int .u8 (c.toNat : Int)
theorem byteCells_append (a b : List UInt8) : byteCells (a ++ b) = byteCells a ++ byteCells b := by simp [byteCells]
theorem byteCells_length (a : List UInt8) : (byteCells a).length = a.length := by simp [byteCells]
theorem byteCells_one (l : List UInt8) : ∀ u ∈ byteCells l, u.oneCell' = true := by
  intro u hu
  obtain ⟨c, _, rfl⟩ := List.mem_map.1 hu
  rfl
theorem u8Info : (Tryd.prog.info? 5).map (fun i => (i.zero, i.size, i.bytes)) = some (some (.int .u8 0), 1, 1) := by kernel_rfl

/-- The writer in block b has written l. -/
def Wtr (w : World) (b : Nat) (l : List UInt8) : Prop := ∃ v, Blk w b #[v] 273 ∧ w.ownsRow (b + 1) 5 1 v l.length (byteCells l)
/-- The block of the writer's row. -/
def wrow (w : World) (b : Nat) : Option Nat := (w.cell? ⟨b, 0, none⟩).bind Value.ownBlock
/-- Only the writer, its row and what is new have turned. -/
structure WGrow (b : Nat) (w w' : World) : Prop where
  below : Below b w w'
  keep : ∀ g, g < w.heap.size → g ≠ b → some g ≠ wrow w b → w'.heap[g]? = w.heap[g]?
  row : ∀ k, wrow w' b = some k → wrow w b = some k ∨ w.heap.size ≤ k
theorem WGrow.refl (b : Nat) (w : World) : WGrow b w w := ⟨Below.refl _ _, fun _ _ _ _ => rfl, fun _ h => .inl h⟩
theorem WGrow.trans {b : Nat} {w w1 w2 : World} (h : WGrow b w w1) (h2 : WGrow b w1 w2) : WGrow b w w2 := by
  have hs := h.below.size
  refine ⟨h.below.trans h2.below, fun g h3 h4 h5 => ?_, fun k hk => ?_⟩
  · rw [h2.keep g (by omega) h4 (fun e => ?_), h.keep g h3 h4 h5]
    rcases h.row g e.symm with h6 | h6
    · exact h5 h6.symm
    · omega
  · rcases h2.row k hk with h3 | h3
    · exact h.row k h3
    · right; omega
theorem wrow_same {w w' : World} {b : Nat} (h : w'.heap[b]? = w.heap[b]?) : wrow w' b = wrow w b := by
  unfold wrow
  rw [World.cell?_of_block (a := ⟨b, 0, none⟩) h]
theorem WGrow.of_grown {b : Nat} {w w' : World} (hb : b < w.heap.size) (h : w.grownBy w' none) : WGrow b w w' :=
  ⟨⟨h.os, h.tape, h.output, h.size, fun k hk => h.block k (by omega) (by simp)⟩, fun g hg _ _ => h.block g hg (by simp), fun k hk => .inl (by rw [← wrow_same (h.block b hb (by simp))]; exact hk)⟩
theorem wrow_blk {w : World} {b : Nat} {v : Value} {T : TypeId} (h : Blk w b #[v] T) : wrow w b = v.ownBlock := by
  unfold wrow
  rw [h.cell 0]; rfl
def WPost (b : Nat) (l : List UInt8) (w : World) (e : Ending) (w' : World) : Prop := e = .returned (.pointer (some ⟨b, 0, none⟩)) ∧ Wtr w' b l ∧ WGrow b w w'

theorem Wtr.lt {w : World} {b : Nat} {l : List UInt8} (h : Wtr w b l) : b < w.heap.size := by
  obtain ⟨v, h1, _⟩ := h
  exact h1.lt
theorem Wtr.below {w w' : World} {b B : Nat} {l : List UInt8} (h : Wtr w b l) (hB : w.heap.size ≤ B) (hb : Below B w w') : Wtr w' b l := by
  obtain ⟨v, h1, h2⟩ := h
  have hg : w.grownBy w' none := ⟨hb.os, hb.tape, hb.output, hb.size, fun i hi _ => hb.block i (by omega)⟩
  exact ⟨v, h1.grown (by simp) hg, h2.kept hg (by cases v.ownBlock <;> simp)⟩
/-- What it has written is one list alone. -/
theorem Wtr.length {w : World} {b : Nat} {l l' : List UInt8} (h : Wtr w b l) (h' : Wtr w b l') : l.length = l'.length := by
  obtain ⟨v, h1, h2⟩ := h
  obtain ⟨v', h1', h2'⟩ := h'
  unfold Blk at h1 h1'
  rw [h1] at h1'
  have e : v = v' := by simpa using h1'
  subst e
  rcases h2.2 with ⟨e1, e2⟩ | ⟨g, c, cur, e1, _⟩ <;> rcases h2'.2 with ⟨f1, f2⟩ | ⟨g', c', cur', f1, _⟩
  · omega
  · rw [e1] at f1; simp at f1
  · rw [e1] at f1; simp at f1
  · rw [e1] at f1; simp at f1; omega

theorem wtr_store {w w1 : World} {b n : Nat} {l' : List UInt8} {v v' : Value} {xs : List Value} (h : Blk w b #[v] 273) (hown : w.ownsRow (b + 1) 5 1 v n xs)
    (hown' : w1.ownsRow (b + 1) 5 1 v' l'.length (byteCells l')) (hg : w.grownBy w1 v.ownBlock) (hloc : ∀ k, v'.ownBlock = some k → v.ownBlock = some k ∨ w.heap.size ≤ k) :
    Wtr (w1.setCell ⟨b, 0, none⟩ v') b l' ∧ WGrow b w (w1.setCell ⟨b, 0, none⟩ v') := by
  have hlt := h.lt
  have hb1 : Blk w1 b #[v] 273 := h.grown (r := v.ownBlock) (fun e => by have := (hown.lt b e.symm).1; omega) hg
  have hset := hb1.set 0 v'
  refine ⟨⟨v', hset, hown'.kept (grownBy_setCell w1 b 0 v') ?_⟩, ?_, ?_, ?_⟩
  · cases hv : v'.ownBlock with
    | none => exact .inl rfl
    | some k => right; intro e; have := (hown'.lt k hv).1; simp at e; omega
  · have h1 : Below b w w1 := (Below.refl b w).grown hg (by omega) (fun k hk => by have := (hown.lt k hk).1; omega)
    exact h1.setCell (p := ⟨b, 0, none⟩) (Nat.le_refl _) _
  · intro g h3 h4 h5
    rw [wrow_blk h] at h5
    rw [(grownBy_setCell w1 b 0 v').block g (Nat.lt_of_lt_of_le h3 hg.size) (by simpa using h4), hg.block g h3 h5]
  · intro k hk
    rw [wrow_blk h]
    rw [wrow_blk (show Blk (w1.setCell ⟨b, 0, none⟩ v') b #[v'] _ from hset)] at hk
    exact hloc k hk

theorem row_at {v : Value} {g o n c B : Nat} (h : v.ownBlock = some g ∨ B ≤ g) : ∀ k, (Value.slice (some ⟨g, o, none⟩) n c).ownBlock = some k → v.ownBlock = some k ∨ B ≤ k := by
  intro k hk
  have e : g = k := by simpa [Value.ownBlock] using hk
  subst e; exact h
theorem ownsRow_slice {w : World} {B : Nat} {e : TypeId} {size n : Nat} {v : Value} {xs : List Value} (h : w.ownsRow B e size v n xs) : ∃ p c, v = .slice p n c := by
  rcases h.2 with ⟨e1, e2⟩ | ⟨g, c, cur, e1, _⟩
  · exact ⟨none, 0, by rw [e1, e2]⟩
  · exact ⟨_, c, e1⟩

/-- Bytes are appended to a slice of one's own. -/
theorem wpList_append_u8 {ops : Array Oper} {rest : List Oper} {o : Oper} {a : Act} {w : World} {Q : Exit → Act → World → Prop} (hgd : o.guard = none) (s x : Operand)
    (ho : o.op = .call { callee := .builtin .append, args := #[s, x], argTypes := #[40, 40] }) (base : Nat) (l : List UInt8) (v : Value) (hs : a.eval s = v) (hown : w.ownsRow base 5 1 v l.length (byteCells l))
    (l2 : List UInt8) (ad : Addr) (m c : Nat) (hx : a.eval x = .slice (some ad) m c) (hm : l2.length = m) (hnews : ∀ j u, (byteCells l2)[j]? = some u → w.cell? (ad.add j) = some u) (hl : 0 < m ∧ l.length + m ≤ 1000000) (hbase : base ≤ w.heap.size)
    (h : ∀ (g n c' : Nat) (w' : World), n = (l ++ l2).length → w'.ownsRow base 5 1 (.slice (some ⟨g, 0, none⟩) n c') n (byteCells (l ++ l2)) → w.grownBy w' v.ownBlock → (v.ownBlock = some g ∨ w.heap.size ≤ g) → wpList Tryd.prog ops Q rest (a.put o.dst (.slice (some ⟨g, 0, none⟩) n c')) w') : wpList Tryd.prog ops Q (o :: rest) a w := by
  obtain ⟨inf, hinf, hinf2⟩ := Option.map_eq_some_iff.1 u8Info
  simp only [Prod.mk.injEq] at hinf2
  obtain ⟨hz, hsz, hby⟩ := hinf2
  refine wpList_append_lies w hgd s x 40 ho base 5 inf (.int .u8 0) 1 1 Tryd.underlying40 hinf hz hsz hby rfl (by decide) v l.length _ hs hown ad m c (byteCells l2) hx (by rw [byteCells_length, hm, Nat.mul_one]) hnews (byteCells_one l2) hl.1 (by unfold maxLen; omega) (by omega) hbase _ rfl ?_
  intro g c' w' hown' hgrow' hat _
  exact h g _ c' w' (by rw [List.length_append, hm]) (by rw [byteCells_append]; exact hown') hgrow' (hat.imp id (fun e => by omega))

/-- The same for the operation alone. -/
theorem wp_append_u8 {o : Oper} {a : Act} {w : World} {K : Act → World → Prop} {Q : Exit → Act → World → Prop} (s x : Operand)
    (ho : o.op = .call { callee := .builtin .append, args := #[s, x], argTypes := #[40, 40] }) (base : Nat) (l : List UInt8) (v : Value) (hs : a.eval s = v) (hown : w.ownsRow base 5 1 v l.length (byteCells l))
    (l2 : List UInt8) (ad : Addr) (m c : Nat) (hx : a.eval x = .slice (some ad) m c) (hm : l2.length = m) (hnews : ∀ j u, (byteCells l2)[j]? = some u → w.cell? (ad.add j) = some u) (hl : 0 < m ∧ l.length + m ≤ 1000000) (hbase : base ≤ w.heap.size)
    (h : ∀ (g n c' : Nat) (w' : World), n = (l ++ l2).length → w'.ownsRow base 5 1 (.slice (some ⟨g, 0, none⟩) n c') n (byteCells (l ++ l2)) → w.grownBy w' v.ownBlock → (v.ownBlock = some g ∨ w.heap.size ≤ g) → K (a.put o.dst (.slice (some ⟨g, 0, none⟩) n c')) w') : o.wp Tryd.prog a w K Q := by
  obtain ⟨inf, hinf, hinf2⟩ := Option.map_eq_some_iff.1 u8Info
  simp only [Prod.mk.injEq] at hinf2
  obtain ⟨hz, hsz, hby⟩ := hinf2
  refine wp_append_lies w s x 40 ho base 5 inf (.int .u8 0) 1 1 Tryd.underlying40 hinf hz hsz hby rfl (by decide) v l.length _ hs hown ad m c (byteCells l2) hx (by rw [byteCells_length, hm, Nat.mul_one]) hnews (byteCells_one l2) hl.1 (by unfold maxLen; omega) (by omega) hbase _ rfl ?_
  intro g c' w' hown' hgrow' hat _
  exact h g _ c' w' (by rw [List.length_append, hm]) (by rw [byteCells_append]; exact hown') hgrow' (hat.imp id (fun e => by omega))

theorem wtr_keeps {w w1 : World} {b n : Nat} {v : Value} {xs : List Value} (h : Blk w b #[v] 273) (hown : w.ownsRow (b + 1) 5 1 v n xs) (hg : w.grownBy w1 v.ownBlock) : Blk w1 b #[v] 273 :=
  h.grown (r := v.ownBlock) (fun e => by have := (hown.lt b e.symm).1; omega) hg

set_option maxHeartbeats 1000000 in
set_option maxRecDepth 100000 in
theorem writer_Raw (b : Nat) (l l2 : List UInt8) (ad : Addr) (m c : Nat) (w : World) (h : Wtr w b l) (hm : l2.length = m) (hs : ∀ j u, (byteCells l2)[j]? = some u → w.cell? (ad.add j) = some u) (hl : 0 < m ∧ l.length + m ≤ 1000000) :
    Calls Tryd.prog 238 #[.pointer (some ⟨b, 0, none⟩), .slice (some ad) m c] w (WPost b (l ++ l2) w) := by
  obtain ⟨v, hb, hown⟩ := h
  have HS := Lib.hid hs
  have HM := Lib.hid hm
  have HB := Lib.hid hb
  have HOWN := Lib.hid hown
  have hlt := hb.lt
  have hc := hb.cell 0
  clear hs hm hb hown
  go_enter Tryd.func238, Tryd.ntmps238
  go_wp2_with (at_builtin; go_must (refine wpList_append_u8 rfl (.tmp 11) (.tmp 12) rfl (b + 1) l v rfl HOWN.out l2 ad m c rfl HM.out HS.out hl (by omega) ?_); intro g n c' w1 hn hown' hgrow' hat; have hb1 := wtr_keeps HB.out HOWN.out hgrow'; have hc1 := hb1.cell 0; have hz1 := hb1.frozen 0; have HO1 := Lib.hid hown'; have HG := Lib.hid hgrow'; have HN := Lib.hid hn; have HAT := Lib.hid hat; clear hown' hgrow' hb1 hn hc hat)
  go_ret
  have HO2 := HO1.out
  rw [HN.out] at HO2 ⊢
  obtain ⟨h1, h2⟩ := wtr_store HB.out HOWN.out HO2 HG.out (row_at HAT.out)
  exact ⟨rfl, h1, h2⟩

end Go.Proofs.YtbcepdacfmbekaaDoor
