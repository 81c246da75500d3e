/-
  The walks of message.Right and the reference's; the words of kinds (packages message, report).
-/
import Derived.Test.YtbcepdacfmbekaaDoorKLn
import Derived.Test.YtbcepdacfmbekaaDoorKIdx
import Derived.Test.YtbcepdacfmbekaaDoorKDec
import Derived.Test.YtbcepdacfmbekaaDoorPm
import Derived.WalkMore
namespace Go.Proofs.YtbcepdacfmbekaaDoor
open Go.RowKit

def Pl.Msg.arr (m : Pl.Msg) : Array Value := #[.int .i64 m.kind, .int .i64 m.sym, .int .i64 m.seq, .int .i64 m.tick, .int .i64 m.id, .int .i64 m.wth, .int .i64 m.price, .int .i64 m.qty, .int .i64 m.code]
/-- A number from lo to hi? -/
def Pl.inR (lo hi n : Int) : Bool := decide (lo ≤ n) && decide (n ≤ hi)
def Pl.inAll (lo hi : Int) (ns : List Int) : Bool := ns.all (Pl.inR lo hi)
theorem Pl.inAll_false {lo hi : Int} {ns : List Int} {k : Nat} (hk : k < ns.length) (h : Pl.inR lo hi (ns.getD k 0) = false) : Pl.inAll lo hi ns = false := by
  unfold Pl.inAll
  rw [List.all_eq_false]
  exact ⟨ns.getD k 0, by simp [List.getD, hk], by rw [h]; simp⟩
theorem Pl.inR_iff (lo hi n : Int) : Pl.inR lo hi n = true ↔ lo ≤ n ∧ n ≤ hi := by simp [Pl.inR]
theorem Pl.msgRight_all (m : Pl.Msg) : Pl.msgRight m = (Pl.inAll 1 9 [m.kind] && (Pl.inAll 0 255 [m.sym, m.code] && (Pl.inAll 0 4611686018427387904 [m.seq, m.tick] && Pl.inAll (-1) 4611686018427387904 [m.id, m.wth]))) := by
  rw [Bool.eq_iff_iff]
  simp [Pl.msgRight, Pl.MsgOk, Pl.inAll, Pl.inR, and_assoc]
theorem Pl.msgRight_in (m : Pl.Msg) : Pl.msgRight m = (Pl.inR 1 9 m.kind && (Pl.inR 0 255 m.sym && (Pl.inR 0 255 m.code && (Pl.inR 0 4611686018427387904 m.seq && (Pl.inR 0 4611686018427387904 m.tick && (Pl.inR (-1) 4611686018427387904 m.id && Pl.inR (-1) 4611686018427387904 m.wth)))))) := by
  rw [Bool.eq_iff_iff]
  simp [Pl.msgRight, Pl.MsgOk, Pl.inR, and_assoc]

set_option maxHeartbeats 1000000 in
set_option maxRecDepth 100000 in
theorem msg_within (lo hi : Int) (g c : Nat) (ns : List Int) (w : World) (hs : ∀ j, j < ns.length → w.cell? ⟨g, j, none⟩ = some (.int .i64 (ns.getD j 0))) (hl : ns.length ≤ 1000000) : Calls Tryd.prog 158 #[.int .i64 lo, .int .i64 hi, .slice (some ⟨g, 0, none⟩) ns.length c] w fun e w' => e = .returned (.bool (Pl.inAll lo hi ns)) ∧ w = w' := by
  have HS := Lib.hid hs
  clear hs
  go_enter Tryd.func158, Tryd.ntmps158
  go_wp2_with fail
  go_loop [11] (fun i => ∃ k : Nat, k ≤ ns.length ∧ i = .int .i64 k ∧ Hid (Pl.inAll lo hi (ns.take k) = true)) (fun i => ns.length - (intOf i).toNat)
  case atStart => exact ⟨0, Nat.zero_le _, rfl, rfl⟩
  case round =>
    obtain ⟨k, hk, rfl, HT⟩ := hrel
    by_cases hlt : k < ns.length
    · have hc := HS.out k hlt
      have HF := Lib.hid (@Pl.inAll_false lo hi ns k hlt)
      have HT2 : Hid (Pl.inR lo hi (ns.getD k 0) = true → Pl.inAll lo hi (ns.take (k + 1)) = true) := fun h => by
        have h2 := HT.out
        unfold Pl.inAll at h2 ⊢
        rw [List.take_succ_eq_append_getElem hlt, List.all_append, h2]
        have e : ns.getD k 0 = ns[k] := by simp [List.getD, hlt]
        rw [e] at h
        simp [h]
      generalize ns.getD k 0 = x at *
      by_cases h1 : x < lo
      · have HR := Lib.hid (HF.out (by simp [Pl.inR]; omega))
        clear HF HT2
        go_wp2_with fail
        go_ret
        exact ⟨congrArg (fun b => Ending.returned (.bool b)) HR.out.symm, rfl⟩
      · by_cases h2 : hi < x
        · have HR := Lib.hid (HF.out (by simp [Pl.inR]; omega))
          clear HF HT2
          go_wp2_with fail
          go_ret
          exact ⟨congrArg (fun b => Ending.returned (.bool b)) HR.out.symm, rfl⟩
        · have HR := Lib.hid (HT2.out (by simp [Pl.inR]; omega))
          clear HF HT2
          go_wp2_with fail
          go_round
          case rel => exact ⟨k + 1, by omega, by go_num, HR.out⟩
          case measure => simp [intOf]; omega
    · obtain rfl : k = ns.length := by omega
      have hT := HT.out
      rw [List.take_length] at hT
      have HT2 := Lib.hid hT
      clear hT HT
      go_wp2_with fail
      go_ret
      exact ⟨congrArg (fun b => Ending.returned (.bool b)) HT2.out.symm, rfl⟩

def BoolPost (b : Bool) (w : World) (e : Ending) (w' : World) : Prop := e = .returned (.bool b) ∧ Below w.heap.size w w'
theorem BoolPost.of {b c : Bool} {w w' : World} (h : b = c) (hb : Below w.heap.size w w') : BoolPost b w (.returned (.bool c)) w' := ⟨by rw [h], hb⟩

set_option maxHeartbeats 1000000 in
theorem ref06_in (n lo hi : Int) (w : World) : Calls Tryd.prog 160 #[.int .i64 n, .int .i64 lo, .int .i64 hi] w fun e w' => e = .returned (.bool (Pl.inR lo hi n)) ∧ w = w' := by
  by_cases h1 : lo ≤ n
  · by_cases h2 : n ≤ hi
    · have H := Lib.hid (show Pl.inR lo hi n = true by simp [Pl.inR, h1, h2])
      go_enter Tryd.func160, Tryd.ntmps160
      go_wp2_with fail
      go_ret
      exact ⟨congrArg (fun b => Ending.returned (.bool b)) H.out.symm, rfl⟩
    · have H := Lib.hid (show Pl.inR lo hi n = false by simp [Pl.inR, h1]; omega)
      have h3 : decide (n ≤ hi) = false := decide_eq_false h2
      go_enter Tryd.func160, Tryd.ntmps160
      go_wp2_with fail
      go_ret
      exact ⟨congrArg (fun b => Ending.returned (.bool b)) H.out.symm, rfl⟩
  · have H := Lib.hid (show Pl.inR lo hi n = false by simp [Pl.inR]; omega)
    have h3 : decide (lo ≤ n) = false := decide_eq_false h1
    go_enter Tryd.func160, Tryd.ntmps160
    go_wp2_with fail
    go_ret
    exact ⟨congrArg (fun b => Ending.returned (.bool b)) H.out.symm, rfl⟩

set_option maxHeartbeats 4000000 in
set_option maxRecDepth 100000 in
theorem message_Right (m : Pl.Msg) (w : World) : Calls Tryd.prog 99 #[.agg m.arr] w (BoolPost (Pl.msgRight m) w) := by
  have HR := Lib.hid (Pl.msgRight_all m)
  obtain ⟨kind, sym, seq, tick, id, wth, price, qty, code⟩ := m
  generalize Pl.msgRight _ = res at *
  simp only [Pl.Msg.arr] at *
  have HB0 : Hid (Below w.heap.size w (w.alloc (.cells #[.int .i64 kind, .int .i64 sym, .int .i64 seq, .int .i64 tick, .int .i64 id, .int .i64 wth, .int .i64 price, .int .i64 qty, .int .i64 code] 62))) := (Below.refl _ _).alloc (Nat.le_refl _) _
  have HK0 : Hid (Blk (w.alloc (.cells #[.int .i64 kind, .int .i64 sym, .int .i64 seq, .int .i64 tick, .int .i64 id, .int .i64 wth, .int .i64 price, .int .i64 qty, .int .i64 code] 62)) w.heap.size #[.int .i64 kind, .int .i64 sym, .int .i64 seq, .int .i64 tick, .int .i64 id, .int .i64 wth, .int .i64 price, .int .i64 qty, .int .i64 code] 62) := Blk.alloc _ _
  have hs0 : (w.alloc (.cells #[.int .i64 kind, .int .i64 sym, .int .i64 seq, .int .i64 tick, .int .i64 id, .int .i64 wth, .int .i64 price, .int .i64 qty, .int .i64 code] 62)).heap.size = w.heap.size + 1 := World.size_alloc _ _
  go_enter Tryd.func99, Tryd.ntmps99
  go_wp2_with fail
  have HB1 : Hid (Below w.heap.size w ((w.alloc (.cells #[.int .i64 kind, .int .i64 sym, .int .i64 seq, .int .i64 tick, .int .i64 id, .int .i64 wth, .int .i64 price, .int .i64 qty, .int .i64 code] 62)).alloc (.cells #[.int .i64 kind] 2))) := HB0.out.alloc (by omega) _
  have HK1 : Hid (Blk ((w.alloc (.cells #[.int .i64 kind, .int .i64 sym, .int .i64 seq, .int .i64 tick, .int .i64 id, .int .i64 wth, .int .i64 price, .int .i64 qty, .int .i64 code] 62)).alloc (.cells #[.int .i64 kind] 2)) w.heap.size #[.int .i64 kind, .int .i64 sym, .int .i64 seq, .int .i64 tick, .int .i64 id, .int .i64 wth, .int .i64 price, .int .i64 qty, .int .i64 code] 62) := HK0.out.grown (r := none) (by simp) (World.grownBy_alloc _ _ _)
  have hs1 : ((w.alloc (.cells #[.int .i64 kind, .int .i64 sym, .int .i64 seq, .int .i64 tick, .int .i64 id, .int .i64 wth, .int .i64 price, .int .i64 qty, .int .i64 code] 62)).alloc (.cells #[.int .i64 kind] 2)).heap.size = w.heap.size + 2 := by rw [World.size_alloc, hs0]
  have HC := Lib.hid (msg_within 1 9 (w.heap.size + 1) 1 [kind] ((w.alloc (.cells #[.int .i64 kind, .int .i64 sym, .int .i64 seq, .int .i64 tick, .int .i64 id, .int .i64 wth, .int .i64 price, .int .i64 qty, .int .i64 code] 62)).alloc (.cells #[.int .i64 kind] 2)) (fun j hj => by
    rw [← hs0]
    match j, hj with
    | 0, _ => rw [World.cell?_alloc_new]; rfl) (by simp))
  simp only [List.length_cons, List.length_nil] at HC
  generalize ((w.alloc (.cells #[.int .i64 kind, .int .i64 sym, .int .i64 seq, .int .i64 tick, .int .i64 id, .int .i64 wth, .int .i64 price, .int .i64 qty, .int .i64 code] 62)).alloc (.cells #[.int .i64 kind] 2)) = w1 at *
  refine HC.out.mono ?_
  rintro e w' ⟨rfl, rfl⟩
  clear HC
  cases hb0 : Pl.inAll 1 9 [kind] with
  | false =>
    have H := Lib.hid (show res = false by rw [HR.out, hb0]; simp)
    clear hb0 HR
    go_wp2_with fail
    go_ret
    exact BoolPost.of H.out HB1.out
  | true =>
    rw [hb0, Bool.true_and] at HR
    clear hb0
    have c1 := HK1.out.cell 1
    have c8 := HK1.out.cell 8
    go_wp2_with fail
    clear c1 c8
    have HB2 : Hid (Below w.heap.size w (w1.alloc (.cells #[.int .i64 sym, .int .i64 code] 2))) := HB1.out.alloc (by omega) _
    have HK2 : Hid (Blk (w1.alloc (.cells #[.int .i64 sym, .int .i64 code] 2)) w.heap.size #[.int .i64 kind, .int .i64 sym, .int .i64 seq, .int .i64 tick, .int .i64 id, .int .i64 wth, .int .i64 price, .int .i64 qty, .int .i64 code] 62) := HK1.out.grown (r := none) (by simp) (World.grownBy_alloc _ _ _)
    have hs2 : (w1.alloc (.cells #[.int .i64 sym, .int .i64 code] 2)).heap.size = w.heap.size + 3 := by rw [World.size_alloc, hs1]
    have HC := Lib.hid (msg_within 0 255 (w.heap.size + 2) 2 [sym, code] (w1.alloc (.cells #[.int .i64 sym, .int .i64 code] 2)) (fun j hj => by
      rw [← hs1]
      match j, hj with
      | 0, _ => rw [World.cell?_alloc_new]; rfl
      | 1, _ => rw [World.cell?_alloc_new]; rfl) (by simp))
    simp only [List.length_cons, List.length_nil] at HC
    generalize (w1.alloc (.cells #[.int .i64 sym, .int .i64 code] 2)) = w2 at *
    refine HC.out.mono ?_
    rintro e w' ⟨rfl, rfl⟩
    clear HC
    cases hb1 : Pl.inAll 0 255 [sym, code] with
    | false =>
      have H := Lib.hid (show res = false by rw [HR.out, hb1]; simp)
      clear hb1 HR
      go_wp2_with fail
      go_ret
      exact BoolPost.of H.out HB2.out
    | true =>
      rw [hb1, Bool.true_and] at HR
      clear hb1
      have c2 := HK2.out.cell 2
      have c3 := HK2.out.cell 3
      go_wp2_with fail
      clear c2 c3
      have HB3 : Hid (Below w.heap.size w (w2.alloc (.cells #[.int .i64 seq, .int .i64 tick] 2))) := HB2.out.alloc (by omega) _
      have HK3 : Hid (Blk (w2.alloc (.cells #[.int .i64 seq, .int .i64 tick] 2)) w.heap.size #[.int .i64 kind, .int .i64 sym, .int .i64 seq, .int .i64 tick, .int .i64 id, .int .i64 wth, .int .i64 price, .int .i64 qty, .int .i64 code] 62) := HK2.out.grown (r := none) (by simp) (World.grownBy_alloc _ _ _)
      have hs3 : (w2.alloc (.cells #[.int .i64 seq, .int .i64 tick] 2)).heap.size = w.heap.size + 4 := by rw [World.size_alloc, hs2]
      have HC := Lib.hid (msg_within 0 4611686018427387904 (w.heap.size + 3) 2 [seq, tick] (w2.alloc (.cells #[.int .i64 seq, .int .i64 tick] 2)) (fun j hj => by
        rw [← hs2]
        match j, hj with
        | 0, _ => rw [World.cell?_alloc_new]; rfl
        | 1, _ => rw [World.cell?_alloc_new]; rfl) (by simp))
      simp only [List.length_cons, List.length_nil] at HC
      generalize (w2.alloc (.cells #[.int .i64 seq, .int .i64 tick] 2)) = w3 at *
      refine HC.out.mono ?_
      rintro e w' ⟨rfl, rfl⟩
      clear HC
      cases hb2 : Pl.inAll 0 4611686018427387904 [seq, tick] with
      | false =>
        have H := Lib.hid (show res = false by rw [HR.out, hb2]; simp)
        clear hb2 HR
        go_wp2_with fail
        go_ret
        exact BoolPost.of H.out HB3.out
      | true =>
        rw [hb2, Bool.true_and] at HR
        clear hb2
        have c4 := HK3.out.cell 4
        have c5 := HK3.out.cell 5
        go_wp2_with fail
        clear c4 c5
        have HB4 : Hid (Below w.heap.size w (w3.alloc (.cells #[.int .i64 id, .int .i64 wth] 2))) := HB3.out.alloc (by omega) _
        have HK4 : Hid (Blk (w3.alloc (.cells #[.int .i64 id, .int .i64 wth] 2)) w.heap.size #[.int .i64 kind, .int .i64 sym, .int .i64 seq, .int .i64 tick, .int .i64 id, .int .i64 wth, .int .i64 price, .int .i64 qty, .int .i64 code] 62) := HK3.out.grown (r := none) (by simp) (World.grownBy_alloc _ _ _)
        have hs4 : (w3.alloc (.cells #[.int .i64 id, .int .i64 wth] 2)).heap.size = w.heap.size + 5 := by rw [World.size_alloc, hs3]
        have HC := Lib.hid (msg_within (-1) 4611686018427387904 (w.heap.size + 4) 2 [id, wth] (w3.alloc (.cells #[.int .i64 id, .int .i64 wth] 2)) (fun j hj => by
          rw [← hs3]
          match j, hj with
          | 0, _ => rw [World.cell?_alloc_new]; rfl
          | 1, _ => rw [World.cell?_alloc_new]; rfl) (by simp))
        simp only [List.length_cons, List.length_nil] at HC
        generalize (w3.alloc (.cells #[.int .i64 id, .int .i64 wth] 2)) = w4 at *
        refine HC.out.mono ?_
        rintro e w' ⟨rfl, rfl⟩
        clear HC
        generalize Pl.inAll (-1) 4611686018427387904 [id, wth] = b3 at *
        go_wp2_with fail
        go_ret
        exact BoolPost.of HR.out HB4.out
set_option maxHeartbeats 4000000 in
set_option maxRecDepth 100000 in
theorem ref06_Right (m : Pl.Msg) (w : World) : Calls Tryd.prog 102 #[.agg m.arr] w (BoolPost (Pl.msgRight m) w) := by
  have HR := Lib.hid (Pl.msgRight_in m)
  obtain ⟨kind, sym, seq, tick, id, wth, price, qty, code⟩ := m
  generalize Pl.msgRight _ = res at *
  simp only [Pl.Msg.arr] at *
  have HB0 : Hid (Below w.heap.size w (w.alloc (.cells #[.int .i64 kind, .int .i64 sym, .int .i64 seq, .int .i64 tick, .int .i64 id, .int .i64 wth, .int .i64 price, .int .i64 qty, .int .i64 code] 62))) := (Below.refl _ _).alloc (Nat.le_refl _) _
  go_enter Tryd.func102, Tryd.ntmps102
  go_wp2_with fail
  refine (ref06_in kind 1 9 _).mono ?_
  rintro e w' ⟨rfl, rfl⟩
  cases hb : Pl.inR 1 9 kind with
  | false =>
    have H := Lib.hid (show res = false by rw [HR.out, hb]; simp)
    clear hb HR
    go_wp2_with fail
    go_ret
    exact BoolPost.of H.out HB0.out
  | true =>
    rw [hb, Bool.true_and] at HR
    clear hb
    go_wp2_with fail
    refine (ref06_in sym 0 255 _).mono ?_
    rintro e w' ⟨rfl, rfl⟩
    cases hb : Pl.inR 0 255 sym with
    | false =>
      have H := Lib.hid (show res = false by rw [HR.out, hb]; simp)
      clear hb HR
      go_wp2_with fail
      go_ret
      exact BoolPost.of H.out HB0.out
    | true =>
      rw [hb, Bool.true_and] at HR
      clear hb
      go_wp2_with fail
      refine (ref06_in code 0 255 _).mono ?_
      rintro e w' ⟨rfl, rfl⟩
      cases hb : Pl.inR 0 255 code with
      | false =>
        have H := Lib.hid (show res = false by rw [HR.out, hb]; simp)
        clear hb HR
        go_wp2_with fail
        go_ret
        exact BoolPost.of H.out HB0.out
      | true =>
        rw [hb, Bool.true_and] at HR
        clear hb
        go_wp2_with fail
        refine (ref06_in seq 0 4611686018427387904 _).mono ?_
        rintro e w' ⟨rfl, rfl⟩
        cases hb : Pl.inR 0 4611686018427387904 seq with
        | false =>
          have H := Lib.hid (show res = false by rw [HR.out, hb]; simp)
          clear hb HR
          go_wp2_with fail
          go_ret
          exact BoolPost.of H.out HB0.out
        | true =>
          rw [hb, Bool.true_and] at HR
          clear hb
          go_wp2_with fail
          refine (ref06_in tick 0 4611686018427387904 _).mono ?_
          rintro e w' ⟨rfl, rfl⟩
          cases hb : Pl.inR 0 4611686018427387904 tick with
          | false =>
            have H := Lib.hid (show res = false by rw [HR.out, hb]; simp)
            clear hb HR
            go_wp2_with fail
            go_ret
            exact BoolPost.of H.out HB0.out
          | true =>
            rw [hb, Bool.true_and] at HR
            clear hb
            go_wp2_with fail
            refine (ref06_in id (-1) 4611686018427387904 _).mono ?_
            rintro e w' ⟨rfl, rfl⟩
            cases hb : Pl.inR (-1) 4611686018427387904 id with
            | false =>
              have H := Lib.hid (show res = false by rw [HR.out, hb]; simp)
              clear hb HR
              go_wp2_with fail
              go_ret
              exact BoolPost.of H.out HB0.out
            | true =>
              rw [hb, Bool.true_and] at HR
              clear hb
              go_wp2_with fail
              refine (ref06_in wth (-1) 4611686018427387904 _).mono ?_
              rintro e w' ⟨rfl, rfl⟩
              generalize Pl.inR (-1) 4611686018427387904 wth = b6 at *
              go_wp2_with fail
              go_ret
              exact BoolPost.of HR.out HB0.out

def kindArr : Array Value := #[.string ⟨#[]⟩, .string ⟨#[97, 99, 107]⟩, .string ⟨#[114, 101, 106, 101, 99, 116]⟩, .string ⟨#[116, 114, 97, 100, 101]⟩, .string ⟨#[100, 111, 110, 101]⟩, .string ⟨#[98, 97, 110, 100, 115]⟩, .string ⟨#[115, 116, 97, 116, 117, 115]⟩, .string ⟨#[114, 101, 115, 116, 114, 105, 99, 116]⟩, .string ⟨#[101, 120, 116, 101, 110, 100]⟩, .string ⟨#[108, 101, 118, 101, 108]⟩]
theorem kind_strs {w : World} {g : Nat} {T : TypeId} (h : Blk w g kindArr T) : Strs w g Pl.kindWords := by
  intro j hj
  rw [h.cell j]
  match j, hj with
  | 0, _ | 1, _ | 2, _ | 3, _ | 4, _ | 5, _ | 6, _ | 7, _ | 8, _ | 9, _ => rfl
  | j + 10, h => simp [Pl.kindWords] at h; omega
set_option maxRecDepth 100000 in
theorem report_names (w : World) : Calls Tryd.prog 107 #[] w fun e w' => e = .returned (.agg kindArr) ∧ Below w.heap.size w w' := by
  unfold kindArr
  go_enter Tryd.func107, Tryd.ntmps107
  go_wp2
  go_returns
  exact ⟨rfl, (Below.refl _ _).alloc (Nat.le_refl _) _⟩
def StrPost (l : List UInt8) (w : World) (e : Ending) (w' : World) : Prop := e = .returned (.string ⟨l.toArray⟩) ∧ Below w.heap.size w w'
theorem StrPost.of {l r : List UInt8} {w w' : World} (h : l = r) (hb : Below w.heap.size w w') : StrPost l w (.returned (.string ⟨r.toArray⟩)) w' := ⟨by rw [h], hb⟩

set_option maxHeartbeats 1000000 in
set_option maxRecDepth 100000 in
theorem report_Word (n : Int) (w : World) : Calls Tryd.prog 46 #[.int .i64 n] w (StrPost (Pl.kword n) w) := by
  have HNM := Lib.hid (report_names w)
  by_cases h1 : n < 1
  · have H := Lib.hid (show Pl.kword n = [] by unfold Pl.kword; rw [if_pos (.inl h1)])
    go_enter Tryd.func46, Tryd.ntmps46
    go_wp2_with fail
    refine HNM.out.mono ?_
    rintro e w1 ⟨rfl, hb⟩
    have HB : Hid (Below w.heap.size w (w1.alloc (.cells kindArr 157))) := hb.alloc hb.size _
    clear hb HNM
    unfold kindArr at *
    go_wp2_with fail
    go_ret
    exact StrPost.of H.out HB.out
  by_cases h2 : 10 ≤ n
  · have H := Lib.hid (show Pl.kword n = [] by unfold Pl.kword; rw [if_pos (.inr (by omega))])
    have h1b : decide (n < 1) = false := decide_eq_false h1
    go_enter Tryd.func46, Tryd.ntmps46
    go_wp2_with fail
    refine HNM.out.mono ?_
    rintro e w1 ⟨rfl, hb⟩
    have HB : Hid (Below w.heap.size w (w1.alloc (.cells kindArr 157))) := hb.alloc hb.size _
    clear hb HNM
    unfold kindArr at *
    go_wp2_with fail
    go_ret
    exact StrPost.of H.out HB.out
  obtain ⟨k, rfl⟩ : ∃ k : Nat, n = k := ⟨n.toNat, by omega⟩
  have H := Lib.hid (show Pl.kword (k : Int) = Pl.kindWords.getD k [] by unfold Pl.kword; rw [if_neg (by omega)]; rfl)
  go_enter Tryd.func46, Tryd.ntmps46
  go_wp2_with fail
  refine HNM.out.mono ?_
  rintro e w1 ⟨rfl, hb⟩
  have HB : Hid (Below w.heap.size w (w1.alloc (.cells kindArr 157))) := hb.alloc hb.size _
  have hc : (w1.alloc (.cells kindArr 157)).cell? ⟨w1.heap.size, k, none⟩ = some (.string ⟨(Pl.kindWords.getD k []).toArray⟩) := kind_strs (Blk.alloc kindArr 157) k (by have : Pl.kindWords.length = 10 := rfl; omega)
  clear hb HNM
  generalize Pl.kindWords.getD k [] = x at *
  unfold kindArr at *
  go_wp2_with fail
  go_ret
  exact StrPost.of H.out HB.out

set_option maxHeartbeats 1000000 in
set_option maxRecDepth 100000 in
theorem ref36_Word (n : Int) (w : World) : Calls Tryd.prog 47 #[.int .i64 n] w (StrPost (Pl.kword n) w) := by
  have HB : Hid (Below w.heap.size w (w.alloc (.cells kindArr 9))) := (Below.refl _ _).alloc (Nat.le_refl _) _
  by_cases h1 : n < 1
  · have H := Lib.hid (show Pl.kword n = [] by unfold Pl.kword; rw [if_pos (.inl h1)])
    unfold kindArr at *
    go_enter Tryd.func47, Tryd.ntmps47
    go_wp2_with fail
    go_ret
    exact StrPost.of H.out HB.out
  by_cases h2 : 9 < n
  · have H := Lib.hid (show Pl.kword n = [] by unfold Pl.kword; rw [if_pos (.inr (by omega))])
    have h1b : decide (n < 1) = false := decide_eq_false h1
    unfold kindArr at *
    go_enter Tryd.func47, Tryd.ntmps47
    go_wp2_with fail
    go_ret
    exact StrPost.of H.out HB.out
  obtain ⟨k, rfl⟩ : ∃ k : Nat, n = k := ⟨n.toNat, by omega⟩
  have H := Lib.hid (show Pl.kword (k : Int) = Pl.kindWords.getD k [] by unfold Pl.kword; rw [if_neg (by omega)]; rfl)
  have hc : (w.alloc (.cells kindArr 9)).cell? ⟨w.heap.size, k, none⟩ = some (.string ⟨(Pl.kindWords.getD k []).toArray⟩) := kind_strs (Blk.alloc kindArr 9) k (by have : Pl.kindWords.length = 10 := rfl; omega)
  generalize Pl.kindWords.getD k [] = x at *
  unfold kindArr at *
  go_enter Tryd.func47, Tryd.ntmps47
  go_wp2_with fail
  go_ret
  exact StrPost.of H.out HB.out

def IntPost (n : Int) (w : World) (e : Ending) (w' : World) : Prop := e = .returned (.int .i64 n) ∧ Below w.heap.size w w'
set_option maxHeartbeats 1000000 in
set_option maxRecDepth 100000 in
theorem report_kindOf (x : List UInt8) (w : World) : Calls Tryd.prog 98 #[.string ⟨x.toArray⟩] w (IntPost (Pl.kindOf x) w) := by
  have HNM := Lib.hid (report_names w)
  have H := Lib.hid (show Pl.kindOf x = if Pl.indexOf x Pl.kindWords < 0 then 0 else Pl.indexOf x Pl.kindWords from rfl)
  go_enter Tryd.func98, Tryd.ntmps98
  go_wp2_with fail
  refine HNM.out.mono ?_
  rintro e w1 ⟨rfl, hb⟩
  have HB : Hid (Below w.heap.size w (w1.alloc (.cells kindArr 157))) := hb.alloc hb.size _
  have HS := Lib.hid (kind_strs (w := w1.alloc (.cells kindArr 157)) (Blk.alloc kindArr 157))
  clear hb HNM
  unfold kindArr at *
  have HX := Lib.hid (slices_Index_some w1.heap.size 10 Pl.kindWords ⟨x.toArray⟩ _ HS.out (by simp [Pl.kindWords]))
  rw [show Pl.kindWords.length = 10 from rfl] at HX
  go_wp2_with fail
  refine HX.out.mono ?_
  rintro e w2 ⟨rfl, rfl⟩
  rw [show (⟨x.toArray⟩ : ByteArray).data.toList = x from rfl]
  clear HX
  generalize Pl.indexOf x Pl.kindWords = i at *
  have H2 := Lib.hid (show Pl.kindOf x = max i 0 by rw [H.out]; split <;> omega)
  go_wp2_with fail
  go_ret
  exact ⟨congrArg (fun n : Int => Ending.returned (.int .i64 n)) H2.out.symm, HB.out⟩

end Go.Proofs.YtbcepdacfmbekaaDoor
