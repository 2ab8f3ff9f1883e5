/- Walks: SortStableFunc of at most 20 numbers with the closure of Bear. -/
import Derived.Test.YtjbdjlgddjmkbaaFvSt
namespace Go.Proofs.Ytjbdjlgddjmkbaa
open Go.RowKit
theorem ins_none (v : Value) (n : Nat) (fv : Value) (w : World) (hn : n ≤ 1000) :
    Calls Try.prog 61 #[v, .int .i64 (n : Nat), .int .i64 (n : Nat), fv] w fun e w' => e = .returned (.tuple #[]) ∧ w = w' := by
  go_enter Try.func61, Try.ntmps61
  go_wp2_with fail
  go_loopw [8] (fun i wr => i = .int .i64 ((n : Int) + 1) ∧ w = wr) (fun i _ => 1)
  case atStart => exact ⟨rfl, rfl⟩
  case round =>
    obtain ⟨rfl, rfl⟩ := hrel
    go_wp2_with fail
    go_end0
    exact ⟨rfl, rfl⟩
set_option maxRecDepth 20000 in
set_option maxHeartbeats 1000000 in
theorem stable_lt (base : Nat) (L : Sl Bal) (gb g c : Nat) (s : List Int) (w : World) (hown : Own base 3 1 ienc w ⟨some ⟨g, 0, none⟩, c, s⟩) (hL : Rd (· < base) 2 Bal.enc w L) (hgb : gb < base) (hc : w.cell? ⟨gb, 0, none⟩ = some (.slice L.A L.l.length L.c))
    (hbase : base ≤ w.heap.size) (hs : s.Pairwise (· < ·)) (hn : 1 ≤ s.length) (hm : s.length < 20) :
    Calls Try.prog 44 #[.slice (some ⟨g, 0, none⟩) s.length c, .int .i64 (s.length : Nat), .func (.func 26) #[] #[.pointer (some ⟨gb, 0, none⟩)]] w fun e w' => e = .returned (.tuple #[]) ∧ Own base 3 1 ienc w' ⟨some ⟨g, 0, none⟩, c, ordF L.l s⟩ ∧ Below base w w' := by
  have hins := ins_any base L gb g c s w hown hL hgb hc hbase hs hn (by omega)
  clear hown hL hc hs
  go_enter Try.func44, Try.ntmps44
  go_wp2_with fail
  go_loopw [7, 8] (fun a b wr => a = .int .i64 0 ∧ b = .int .i64 20 ∧ wr = w) (fun _ _ _ => 1)
  case atStart => exact ⟨rfl, rfl, rfl⟩
  case round =>
    obtain ⟨rfl, rfl, rfl⟩ := hrel
    go_wp2_with fail
    refine hins.mono ?_
    clear hins
    rintro e w1 ⟨rfl, ho1, hb1⟩
    have HO1 := Lib.hid ho1
    clear ho1
    go_wp2_with fail
    go_loopw [6] (fun a wr2 => a = .int .i64 20 ∧ wr2 = w1) (fun _ _ => 1)
    case atStart => exact ⟨rfl, rfl⟩
    case round =>
      obtain ⟨rfl, rfl⟩ := hrel
      go_wp2_with fail
      go_end0
      exact ⟨rfl, HO1.out, hb1⟩
set_option maxRecDepth 20000 in
set_option maxHeartbeats 1000000 in
theorem stable_eq (base : Nat) (L : Sl Bal) (gb g c : Nat) (s : List Int) (w : World) (hown : Own base 3 1 ienc w ⟨some ⟨g, 0, none⟩, c, s⟩) (hL : Rd (· < base) 2 Bal.enc w L) (hgb : gb < base) (hc : w.cell? ⟨gb, 0, none⟩ = some (.slice L.A L.l.length L.c))
    (hbase : base ≤ w.heap.size) (hs : s.Pairwise (· < ·)) (hm : s.length = 20) :
    Calls Try.prog 44 #[.slice (some ⟨g, 0, none⟩) 20 c, .int .i64 20, .func (.func 26) #[] #[.pointer (some ⟨gb, 0, none⟩)]] w fun e w' => e = .returned (.tuple #[]) ∧ Own base 3 1 ienc w' ⟨some ⟨g, 0, none⟩, c, ordF L.l s⟩ ∧ Below base w w' := by
  have hins := ins_any base L gb g c s w hown hL hgb hc hbase hs (by omega) (by omega)
  rw [hm] at hins
  have HINS := Lib.hid hins
  clear hown hL hc hs hm hins
  go_enter Try.func44, Try.ntmps44
  go_wp2_with fail
  go_loopw [7, 8] (fun a b wr => (a = .int .i64 0 ∧ b = .int .i64 20 ∧ wr = w) ∨ (a = .int .i64 20 ∧ b = .int .i64 40 ∧ Hid (Own base 3 1 ienc wr ⟨some ⟨g, 0, none⟩, c, ordF L.l s⟩) ∧ Below base w wr)) (fun _ b _ => (60 - intOf b).toNat)
  case atStart => exact .inl ⟨rfl, rfl, rfl⟩
  case round =>
    rcases hrel with ⟨rfl, rfl, rfl⟩ | ⟨rfl, rfl, HO, hbel⟩
    · go_wp2_with fail
      refine HINS.out.mono ?_
      rintro e w1 ⟨rfl, ho1, hb1⟩
      have HO1 := Lib.hid ho1
      clear ho1
      go_wp2_with fail
      go_roundw
      case rel => exact .inr ⟨rfl, rfl, HO1, hb1⟩
      case measure => simp [intOf]
    · go_wp2_with fail
      refine (ins_none _ 20 _ _ (by omega)).mono ?_
      rintro e w1 ⟨rfl, rfl⟩
      go_wp2_with fail
      go_loopw [6] (fun a wr2 => a = .int .i64 20 ∧ wr2 = wr) (fun _ _ => 1)
      case atStart => exact ⟨rfl, rfl⟩
      case round =>
        obtain ⟨rfl, rfl⟩ := hrel
        go_wp2_with fail
        go_end0
        exact ⟨rfl, HO.out, hbel⟩
theorem stable_any (base : Nat) (L : Sl Bal) (gb g c : Nat) (s : List Int) (w : World) (hown : Own base 3 1 ienc w ⟨some ⟨g, 0, none⟩, c, s⟩) (hL : Rd (· < base) 2 Bal.enc w L) (hgb : gb < base) (hc : w.cell? ⟨gb, 0, none⟩ = some (.slice L.A L.l.length L.c))
    (hbase : base ≤ w.heap.size) (hs : s.Pairwise (· < ·)) (hn : 1 ≤ s.length) (hm : s.length ≤ 20) :
    Calls Try.prog 25 #[.slice (some ⟨g, 0, none⟩) s.length c, .func (.func 26) #[] #[.pointer (some ⟨gb, 0, none⟩)]] w fun e w' => e = .returned (.tuple #[]) ∧ Own base 3 1 ienc w' ⟨some ⟨g, 0, none⟩, c, ordF L.l s⟩ ∧ Below base w w' := by
  have hst : Calls Try.prog 44 #[.slice (some ⟨g, 0, none⟩) s.length c, .int .i64 (s.length : Nat), .func (.func 26) #[] #[.pointer (some ⟨gb, 0, none⟩)]] w fun e w' => e = .returned (.tuple #[]) ∧ Own base 3 1 ienc w' ⟨some ⟨g, 0, none⟩, c, ordF L.l s⟩ ∧ Below base w w' := by
    rcases Nat.lt_or_ge s.length 20 with h | h
    · exact stable_lt base L gb g c s w hown hL hgb hc hbase hs hn h
    · have e : s.length = 20 := by omega
      have := stable_eq base L gb g c s w hown hL hgb hc hbase hs e
      rw [e]; exact this
  clear hown hL hc hs
  go_enter Try.func25, Try.ntmps25
  go_wp2_with fail
  refine hst.mono ?_
  clear hst
  rintro e w1 ⟨rfl, ho1, hb1⟩
  go_wp2_with fail
  go_end0
  exact ⟨rfl, ho1, hb1⟩
end Go.Proofs.Ytjbdjlgddjmkbaa
