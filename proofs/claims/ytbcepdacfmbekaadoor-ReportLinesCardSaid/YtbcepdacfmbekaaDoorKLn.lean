/-
  The walks of package words' line (put, nums) and of Line at a tick; report.number.
-/
import Derived.Test.YtbcepdacfmbekaaDoorKWDec
import Derived.Test.YtbcepdacfmbekaaDoorKWr
import Derived.Test.YtbcepdacfmbekaaDoorKRSplit
namespace Go.Proofs.YtbcepdacfmbekaaDoor
open Go.RowKit

/-- The line in block b has the words l. -/
def Lns (w : World) (b : Nat) (l : List (List UInt8)) : Prop := ∃ v, Blk w b #[v] 160 ∧ w.ownsRow (b + 1) 9 1 v l.length (strCells l)
theorem strCells_append (a b : List (List UInt8)) : strCells (a ++ b) = strCells a ++ strCells b := by simp [strCells]
theorem strCells_length (a : List (List UInt8)) : (strCells a).length = a.length := by simp [strCells]
theorem strCells_one (l : List (List UInt8)) : ∀ u ∈ strCells l, u.oneCell' = true := by
  intro u hu
  obtain ⟨c, _, rfl⟩ := List.mem_map.1 hu
  rfl

/-- Strings are appended to a slice of one's own. -/
theorem wpList_append_str {ops : Array Oper} {rest : List Oper} {o : Oper} {a : Act} {w : World} {Q : Exit → Act → World → Prop} (hgd : o.guard = none) (s x : Operand)
    (ho : o.op = .call { callee := .builtin .append, args := #[s, x], argTypes := #[33, 33] }) (base : Nat) (l : List (List UInt8)) (v : Value) (hs : a.eval s = v) (hown : w.ownsRow base 9 1 v l.length (strCells l))
    (l2 : List (List UInt8)) (ad : Addr) (m c : Nat) (hx : a.eval x = .slice (some ad) m c) (hm : l2.length = m) (hnews : ∀ j u, (strCells l2)[j]? = some u → w.cell? (ad.add j) = some u) (hl : 0 < m ∧ l.length + m ≤ 1000000) (hbase : base ≤ w.heap.size)
    (h : ∀ (g n c' : Nat) (w' : World), n = (l ++ l2).length → w'.ownsRow base 9 1 (.slice (some ⟨g, 0, none⟩) n c') n (strCells (l ++ l2)) → w.grownBy w' v.ownBlock → (v.ownBlock = some g ∨ w.heap.size ≤ g) → wpList Tryd.prog ops Q rest (a.put o.dst (.slice (some ⟨g, 0, none⟩) n c')) w') : wpList Tryd.prog ops Q (o :: rest) a w := by
  obtain ⟨inf, hinf, hinf2⟩ := Option.map_eq_some_iff.1 stringInfo
  simp only [Prod.mk.injEq] at hinf2
  obtain ⟨hz, hsz, hby⟩ := hinf2
  refine wpList_append_lies w hgd s x 33 ho base 9 inf (.string ⟨#[]⟩) 1 16 Tryd.underlying33 hinf hz hsz hby rfl (by decide) v l.length _ hs hown ad m c (strCells l2) hx (by rw [strCells_length, hm, Nat.mul_one]) hnews (strCells_one l2) hl.1 (by unfold maxLen; omega) (by omega) hbase _ rfl ?_
  intro g c' w' hown' hgrow' hat _
  exact h g _ c' w' (by rw [List.length_append, hm]) (by rw [strCells_append]; exact hown') hgrow' (hat.imp id (fun e => by omega))

/-- The word's block and its row, behind a store. -/
theorem own_store {w w1 : World} {b n n' : Nat} {E T : TypeId} {v v' : Value} {xs xs' : List Value} (h : Blk w b #[v] T) (hown : w.ownsRow (b + 1) E 1 v n xs)
    (hown' : w1.ownsRow (b + 1) E 1 v' n' xs') (hg : w.grownBy w1 v.ownBlock) (hloc : ∀ k, v'.ownBlock = some k → v.ownBlock = some k ∨ w.heap.size ≤ k) :
    Blk (w1.setCell ⟨b, 0, none⟩ v') b #[v'] T ∧ (w1.setCell ⟨b, 0, none⟩ v').ownsRow (b + 1) E 1 v' n' xs' ∧ WGrow b w (w1.setCell ⟨b, 0, none⟩ v') := by
  have hlt := h.lt
  have hb1 : Blk w1 b #[v] T := h.grown (r := v.ownBlock) (fun e => by have := (hown.lt b e.symm).1; omega) hg
  have hset := hb1.set 0 v'
  refine ⟨hset, hown'.kept (grownBy_setCell w1 b 0 v') ?_, ?_, ?_, ?_⟩
  · cases hv : v'.ownBlock with
    | none => exact .inl rfl
    | some k => right; intro e; have := (hown'.lt k hv).1; simp at e; omega
  · have h1 : Below b w w1 := (Below.refl b w).grown hg (by omega) (fun k hk => by have := (hown.lt k hk).1; omega)
    exact h1.setCell (p := ⟨b, 0, none⟩) (Nat.le_refl _) _
  · intro g h3 h4 h5
    rw [wrow_blk h] at h5
    rw [(grownBy_setCell w1 b 0 v').block g (Nat.lt_of_lt_of_le h3 hg.size) (by simpa using h4), hg.block g h3 h5]
  · intro k hk
    rw [wrow_blk h]
    rw [wrow_blk (show Blk (w1.setCell ⟨b, 0, none⟩ v') b #[v'] _ from hset)] at hk
    exact hloc k hk
theorem own_keeps {w w1 : World} {b n : Nat} {E T : TypeId} {v : Value} {xs : List Value} (h : Blk w b #[v] T) (hown : w.ownsRow (b + 1) E 1 v n xs) (hg : w.grownBy w1 v.ownBlock) : Blk w1 b #[v] T :=
  h.grown (r := v.ownBlock) (fun e => by have := (hown.lt b e.symm).1; omega) hg
def LPost (b : Nat) (l : List (List UInt8)) (w : World) (e : Ending) (w' : World) : Prop := e = .returned (.tuple #[]) ∧ Lns w' b l ∧ WGrow b w w'

set_option maxHeartbeats 1000000 in
set_option maxRecDepth 100000 in
theorem line_put (b : Nat) (l l2 : List (List UInt8)) (ad : Addr) (m c : Nat) (w : World) (h : Lns w b l) (hm : l2.length = m) (hs : ∀ j u, (strCells l2)[j]? = some u → w.cell? (ad.add j) = some u) (hl : 0 < m ∧ l.length + m ≤ 1000000) :
    Calls Tryd.prog 109 #[.pointer (some ⟨b, 0, none⟩), .slice (some ad) m c] w (LPost b (l ++ l2) w) := by
  obtain ⟨v, hb, hown⟩ := h
  have HS := Lib.hid hs
  have HM := Lib.hid hm
  have HB := Lib.hid hb
  have HOWN := Lib.hid hown
  have hlt := hb.lt
  have hc := hb.cell 0
  clear hs hm hb hown
  go_enter Tryd.func109, Tryd.ntmps109
  go_wp2_with (at_builtin; go_must (refine wpList_append_str rfl (.tmp 8) (.tmp 9) rfl (b + 1) l v rfl HOWN.out l2 ad m c rfl HM.out HS.out hl (by omega) ?_); intro g n c' w1 hn hown' hgrow' hat; have hb1 := own_keeps HB.out HOWN.out hgrow'; have hc1 := hb1.cell 0; have hz1 := hb1.frozen 0; have HO1 := Lib.hid hown'; have HG := Lib.hid hgrow'; have HN := Lib.hid hn; have HAT := Lib.hid hat; clear hown' hgrow' hb1 hn hc hat)
  go_end0
  have HO2 := HO1.out
  rw [HN.out] at HO2 ⊢
  obtain ⟨h1, h2, h3⟩ := own_store HB.out HOWN.out HO2 HG.out (row_at HAT.out)
  exact ⟨rfl, ⟨_, h1, h2⟩, h3⟩

theorem Lns.lt {w : World} {b : Nat} {l : List (List UInt8)} (h : Lns w b l) : b < w.heap.size := by
  obtain ⟨v, h1, _⟩ := h
  exact h1.lt
theorem Lns.below {w w' : World} {b : Nat} {l : List (List UInt8)} (h : Lns w b l) (hb : Below w.heap.size w w') : Lns w' b l := by
  obtain ⟨v, h1, h2⟩ := h
  have hg : w.grownBy w' none := grownBy_of_below' hb none
  exact ⟨v, h1.grown (by simp) hg, h2.kept hg (by cases v.ownBlock <;> simp)⟩

theorem Lns.fresh {w : World} {b : Nat} {l : List (List UInt8)} (h : Lns w b l) (o : Obj) : some w.heap.size ≠ wrow (w.alloc o) b := by
  obtain ⟨v, h1, h2⟩ := h
  intro e
  rw [wrow_blk (h1.grown (r := none) (by simp) (World.grownBy_alloc w o none))] at e
  have := (h2.lt _ e.symm).2
  omega
/-- The words of a line, joined. -/
theorem line_join (b : Nat) (l : List (List UInt8)) (w : World) (h : Lns w b l) (hl : l.length ≤ 1000000) (hlen : (Lib.join l [32]).length ≤ 140737488355328) :
    ∃ v, w.cell? ⟨b, 0, none⟩ = some v ∧ Calls Tryd.prog 101 #[v, .string ⟨#[32]⟩] w fun e w' => e = .returned (.string ⟨(Lib.join l [32]).toArray⟩) ∧ Below w.heap.size w w' := by
  obtain ⟨v, hb, hown⟩ := h
  refine ⟨v, hb.cell 0, ?_⟩
  cases l with
  | nil =>
    obtain ⟨p, c, rfl⟩ := ownsRow_slice hown
    exact (Tryd.strings_Join_none p c _ w).mono fun e w' ⟨h1, h2⟩ => ⟨by rw [h1]; rfl, by rw [h2]; exact Below.refl _ _⟩
  | cons x r =>
    rcases hown.2 with ⟨_, h0⟩ | ⟨g, c, cur, rfl, _, hg, hnc, _, _⟩
    · simp at h0
    · have hlt := (hown.lt g rfl).2
      have e1 : (((x :: r).map fun y => (⟨y.toArray⟩ : ByteArray)).map (·.data.toList)) = x :: r := by
        rw [List.map_map]; exact (List.map_congr_left fun a _ => rfl).trans (List.map_id _)
      have hj := Tryd.strings_Join g 0 c ((x :: r).map fun y => ⟨y.toArray⟩) ⟨#[32]⟩ w (fun j y hy => by
        have hjl : j < (x :: r).length := by
          have := (List.getElem?_eq_some_iff.1 hy).1
          simpa using this
        rw [Nat.zero_add, World.ownsRow.cellAt hown j (by omega)]
        rw [List.getElem?_map] at hy
        obtain ⟨z, hz, rfl⟩ := Option.map_eq_some_iff.1 hy
        rw [strCells, List.getElem?_map, hz]; rfl) hlt (by rw [List.length_map]; omega) (by rw [List.length_map]; exact hnc) (by rw [e1]; exact hlen)
      rw [e1, List.length_map] at hj
      exact hj

def TrueP (w : World) (e : Ending) (w' : World) : Prop := e = .returned (.bool true) ∧ Below w.heap.size w w'
def decs (l : List Int) : List (List UInt8) := l.map Pl.decimal
set_option maxHeartbeats 1000000 in
set_option maxRecDepth 100000 in
theorem line_nums (b g c : Nat) (l : List (List UInt8)) (ns : List Int) (w : World) (h : Lns w b l) (hs : ∀ j, j < ns.length → w.cell? ⟨g, j, none⟩ = some (.int .i64 (ns.getD j 0))) (hg : g ≠ b ∧ g < w.heap.size ∧ some g ≠ wrow w b) (hr : ∀ x ∈ ns, -9223372036854775808 ≤ x ∧ x ≤ 9223372036854775807) (hl : l.length + ns.length ≤ 1000000) :
    Calls Tryd.prog 110 #[.pointer (some ⟨b, 0, none⟩), .slice (some ⟨g, 0, none⟩) ns.length c] w (LPost b (l ++ decs ns) w) := by
  have hlt := h.lt
  have HS := Lib.hid hs
  have HR := Lib.hid hr
  clear hs hr
  go_enter Tryd.func110, Tryd.ntmps110
  go_wp2_with fail
  go_loopw [8] (fun i wr => ∃ k : Nat, k ≤ ns.length ∧ i = .int .i64 k ∧ Hid (Lns wr b (l ++ decs (ns.take k))) ∧ Hid (WGrow b w wr)) (fun i _ => ns.length - (intOf i).toNat)
  case atStart => exact ⟨0, Nat.zero_le _, rfl, by show Lns _ _ _; simpa [decs] using h, WGrow.refl _ _⟩
  case round =>
    obtain ⟨k, hk, rfl, HL, HG⟩ := hrel
    by_cases hlt2 : k < ns.length
    · have hc : wr.cell? ⟨g, k, none⟩ = some (.int .i64 (ns.getD k 0)) := (World.cell?_of_block (a := ⟨g, k, none⟩) (HG.out.keep g hg.2.1 hg.1 hg.2.2)).trans (HS.out k hlt2)
      have hx := HR.out (ns.getD k 0) (by simp [List.getD, hlt2])
      have HT := Lib.hid (show decs (ns.take (k + 1)) = decs (ns.take k) ++ [Pl.decimal (ns.getD k 0)] by unfold decs; rw [List.take_succ_eq_append_getElem hlt2, List.map_append]; congr 1; simp [List.getD, hlt2])
      have hlen : (l ++ decs (ns.take k)).length + 1 ≤ 1000000 := by simp [decs]; omega
      generalize ns.getD k 0 = x at *
      generalize hll : l ++ decs (ns.take k) = ll at *
      have HLL := Lib.hid hll
      clear hll
      have HC := Lib.hid (words_decimal x wr hx.1 hx.2)
      go_wp2_with fail
      refine HC.out.mono ?_
      rintro e w1 ⟨rfl, hb1⟩
      have HL1 : Hid (Lns (w1.alloc (.cells #[.string ⟨(Pl.decimal x).toArray⟩] 9)) b ll) := (HL.out.below hb1).below ((Below.refl _ _).alloc (Nat.le_refl _) _)
      have HG1 : Hid (WGrow b w (w1.alloc (.cells #[.string ⟨(Pl.decimal x).toArray⟩] 9))) := HG.out.trans (WGrow.of_grown HL.out.lt ((grownBy_of_below' hb1 none).trans (World.grownBy_alloc _ _ _)))
      have HP := Lib.hid (line_put b ll [Pl.decimal x] ⟨w1.heap.size, 0, none⟩ 1 1 _ HL1.out rfl (fun j u hu => by
        match j, hu with
        | 0, hu => rw [show (⟨w1.heap.size, 0, none⟩ : Addr).add 0 = ⟨w1.heap.size, 0, none⟩ from rfl, World.cell?_alloc_new]; simpa [strCells] using hu
        | j + 1, hu => simp [strCells] at hu) ⟨by omega, hlen⟩)
      clear hb1 HC hc hx
      generalize Pl.decimal x = d at *
      go_wp2_with fail
      refine HP.out.mono ?_
      rintro e w2 ⟨rfl, h1, h2⟩
      have HL2 := Lib.hid h1
      have HG2 : Hid (WGrow b w w2) := HG1.out.trans h2
      clear h1 h2 HP HL1 HG1 HL HG
      go_wp2_with fail
      go_roundw
      case rel => exact ⟨k + 1, by omega, by go_num, by show Lns _ _ _; rw [HT.out, ← List.append_assoc, HLL.out]; exact HL2.out, HG2.out⟩
      case measure => simp [intOf]; omega
    · obtain rfl : k = ns.length := by omega
      go_wp2_with fail
      go_end0
      have hL := HL.out
      rw [List.take_length] at hL
      exact ⟨rfl, hL, HG.out⟩

/-- script.Right at a tick, an index: it is right. -/
theorem script_Right_n (kind n : Int) (hk : kind = 2 ∨ kind = 3) (w : World) : Calls Tryd.prog 108 #[.agg (#[.int .i64 kind, .int .i64 0, .int .i64 n, .slice none 0 0])] w (TrueP w) := by
  rcases hk with rfl | rfl
  all_goals
    go_enter Tryd.func108, Tryd.ntmps108
    go_wp2_with fail
    go_ret
    exact ⟨rfl, (Below.refl _ _).alloc (Nat.le_refl _) _⟩

def wTick : List UInt8 := [116, 105, 99, 107]
def LinePost (r : List UInt8) (f : Int) (w : World) (e : Ending) (w' : World) : Prop := e = .returned (.tuple #[.string ⟨r.toArray⟩, .int .i64 f]) ∧ Below w.heap.size w w'
set_option maxHeartbeats 1000000 in
set_option maxRecDepth 100000 in
theorem words_Line_tick (n : Int) (h0 : -9223372036854775808 ≤ n) (h1 : n ≤ 9223372036854775807) (w : World) : Calls Tryd.prog 52 #[.agg (#[.int .i64 2, .int .i64 0, .int .i64 n, .slice none 0 0])] w (LinePost (wTick ++ 32 :: Pl.decimal n) 0 w) := by
  go_enter Tryd.func52, Tryd.ntmps52
  go_wp2_with fail
  refine (script_Right_n 2 n (.inl rfl) _).mono ?_
  rintro e w1 ⟨rfl, hb1⟩
  have HBB : Hid (Blk w1 w.heap.size (#[.int .i64 2, .int .i64 0, .int .i64 n, .slice none 0 0]) 42) := (Blk.alloc (w := w) _ _).below (by simp) hb1
  have HB1 : Hid (Below w.heap.size w w1) := ((Below.refl _ _).alloc (Nat.le_refl _) _).trans (hb1.mono (by simp))
  have c0 := HBB.out.cell 0
  have c2 := HBB.out.cell 2
  have hs1 := HBB.out.lt
  clear hb1
  have HL0 : Hid (Lns ((w1.alloc (.cells #[.slice none 0 0] 160)).alloc (.cells #[.string ⟨wTick.toArray⟩] 9)) w1.heap.size []) :=
    Lns.below (w := w1.alloc (.cells #[.slice none 0 0] 160)) ⟨_, Blk.alloc _ _, World.ownsRow_nil _ _ _ _⟩ ((Below.refl _ _).alloc (Nat.le_refl _) _)
  have HP := Lib.hid (line_put w1.heap.size [] [wTick] ⟨w1.heap.size + 1, 0, none⟩ 1 1 _ HL0.out rfl (fun j u hu => by
    match j, hu with
    | 0, hu =>
      have e := World.cell?_alloc_new (w1.alloc (.cells #[.slice none 0 0] 160)) #[.string ⟨wTick.toArray⟩] 9 0
      rw [World.size_alloc] at e
      rw [show (⟨w1.heap.size + 1, 0, none⟩ : Addr).add 0 = ⟨w1.heap.size + 1, 0, none⟩ from rfl, e]
      simpa [strCells] using hu
    | j + 1, hu => simp [strCells] at hu) ⟨by omega, by simp⟩)
  have HB2 : Hid (Below w.heap.size w ((w1.alloc (.cells #[.slice none 0 0] 160)).alloc (.cells #[.string ⟨wTick.toArray⟩] 9))) := (HB1.out.alloc (by omega) _).alloc (by simp; omega) _
  have HBK : Hid (Blk ((w1.alloc (.cells #[.slice none 0 0] 160)).alloc (.cells #[.string ⟨wTick.toArray⟩] 9)) w.heap.size #[.int .i64 2, .int .i64 0, .int .i64 n, .slice none 0 0] 42) := (HBB.out.grown (r := none) (by simp) (World.grownBy_alloc _ _ _)).grown (r := none) (by simp) (World.grownBy_alloc _ _ _)
  have hsz : ((w1.alloc (.cells #[.slice none 0 0] 160)).alloc (.cells #[.string ⟨wTick.toArray⟩] 9)).heap.size = w1.heap.size + 2 := by simp
  unfold wTick at HP HL0 HB2 HBK hsz
  clear HL0
  go_wp2_with fail
  generalize (w1.alloc (.cells #[.slice none 0 0] 160)).alloc (.cells _ 9) = w2 at *
  refine HP.out.mono ?_
  rintro e w3 ⟨rfl, hl3, hg3⟩
  have HB3 : Hid (Below w.heap.size w w3) := HB2.out.trans (hg3.below.mono (by omega))
  have HK3 : Hid (Blk w3 w.heap.size #[.int .i64 2, .int .i64 0, .int .i64 n, .slice none 0 0] 42) := HBK.out.below (by omega) hg3.below
  have HL3 := Lib.hid hl3
  have hl3l := hl3.lt
  have c2 := HK3.out.cell 2
  clear hl3 hg3 HP HB2 HBK HBB
  have HN := Lib.hid (line_nums w1.heap.size w3.heap.size 1 _ [n] (w3.alloc (.cells #[.int .i64 n] 2)) (HL3.out.below ((Below.refl _ _).alloc (Nat.le_refl _) _)) (fun j hj => by
    match j, hj with
    | 0, _ => rw [World.cell?_alloc_new]; rfl) ⟨by omega, by simp, HL3.out.fresh _⟩ (fun x hx => by simp at hx; subst hx; exact ⟨h0, h1⟩) (by simp))
  have hsz4 : (w3.alloc (.cells #[.int .i64 n] 2)).heap.size = w3.heap.size + 1 := World.size_alloc _ _
  have HB4 : Hid (Below w.heap.size w (w3.alloc (.cells #[.int .i64 n] 2))) := HB3.out.alloc (by omega) _
  go_wp2_with fail
  generalize w3.alloc (.cells #[.int .i64 n] 2) = w4 at *
  refine HN.out.mono ?_
  rintro e w5 ⟨rfl, hl5, hg5⟩
  have HB5 : Hid (Below w.heap.size w w5) := HB4.out.trans (hg5.below.mono (by omega))
  obtain ⟨v, hcv, hj⟩ := line_join w1.heap.size _ w5 hl5 (by simp [decs]) (by
    have := Pl.decimal_length h0 h1
    simp [decs, Lib.join_cons, Lib.joinTail]
    omega)
  have HJ := Lib.hid hj
  have hjr : Lib.join ([[116, 105, 99, 107]] ++ decs [n]) [32] = wTick ++ 32 :: Pl.decimal n := by simp [decs, wTick, Lib.join_cons, Lib.joinTail]
  rw [List.nil_append, hjr] at HJ
  generalize wTick ++ 32 :: Pl.decimal n = res at *
  clear hl5 hg5 hj HN hjr HL3 HK3 c2
  go_wp2_with fail
  refine HJ.out.mono ?_
  rintro e w6 ⟨rfl, hb6⟩
  have HB6 : Hid (Below w.heap.size w w6) := HB5.out.trans (hb6.mono HB5.out.size)
  clear hb6 HJ hcv
  go_wp2_with fail
  go_ret2
  exact ⟨rfl, HB6.out⟩

/-- report.number -/
def NumTextPost (n : Int) (w : World) (e : Ending) (w' : World) : Prop := e = .returned (.string ⟨(Pl.decimal n).toArray⟩) ∧ Below w.heap.size w w'
theorem cut_tick (d : List UInt8) : Lib.cut (wTick ++ 32 :: d) [32] = (wTick, d, true) := by
  rw [Pl.cut_one]; simp [wTick, Pl.cutC]
set_option maxHeartbeats 1000000 in
set_option maxRecDepth 100000 in
theorem report_number (n : Int) (h0 : -9223372036854775808 ≤ n) (h1 : n ≤ 9223372036854775807) (w : World) (hE : Env w) : Calls Tryd.prog 100 #[.int .i64 n] w (NumTextPost n w) := by
  have HC := Lib.hid (words_Line_tick n h0 h1 w)
  have hlen := Pl.decimal_length h0 h1
  have HE := Lib.hid hE
  clear hE
  go_enter Tryd.func100, Tryd.ntmps100
  go_wp2_with fail
  refine HC.out.mono ?_
  rintro e w1 ⟨rfl, hb1⟩
  have HB1 := Lib.hid hb1
  obtain ⟨m, hm⟩ := HE.out.below (Nat.le_refl _) hb1
  have HCut := Lib.hid (Tryd.strings_Cut ⟨(wTick ++ 32 :: Pl.decimal n).toArray⟩ ⟨#[32]⟩ m w1 (by rw [Lib.size_eq]; simp [wTick]; omega) hm)
  rw [show (⟨(wTick ++ 32 :: Pl.decimal n).toArray⟩ : ByteArray).data.toList = wTick ++ 32 :: Pl.decimal n from rfl, show (⟨#[32]⟩ : ByteArray).data.toList = [32] from rfl, cut_tick] at HCut
  clear hb1 HC hm
  generalize wTick ++ 32 :: Pl.decimal n = res at *
  generalize hdec : Pl.decimal n = d at *
  have HD := Lib.hid hdec
  clear hdec
  go_wp2_with fail
  refine HCut.out.mono ?_
  rintro e w2 ⟨rfl, k, rfl⟩
  clear HCut
  go_wp2_with fail
  go_ret
  exact ⟨congrArg (fun l : List UInt8 => Ending.returned (.string ⟨l.toArray⟩)) HD.out.symm, below_drewN HB1.out k⟩

end Go.Proofs.YtbcepdacfmbekaaDoor
