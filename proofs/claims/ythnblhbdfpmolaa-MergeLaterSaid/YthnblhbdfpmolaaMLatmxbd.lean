/- A map from a device and a number: how it lies, how it is read and written. -/
import Derived.Test.YthnblhbdfpmolaaMLatmxac
import Derived.DeepKeys4
import Derived.Maps.OwnOps
namespace Go.Proofs.Ythnblhbdfpmolaa
open Go.RowKit
open Go.Maps (Keyed)
def kv (d s : Int) : Value := .agg #[.int .i64 d, .int .i64 s]
theorem kv_inj {d s d' s' : Int} (h : kv d s = kv d' s') : d = d' ∧ s = s' := by simpa [kv] using h
theorem keyLaid : laidOutB Try.prog = true := by kernel_rfl
theorem keyRow : (116 : Nat) < Try.prog.types.size := of_decide_eq_true (by kernel_rfl)
theorem keyDeep : Try.prog.keyTypeAt 3 116 = true := by kernel_rfl
theorem keyLaw0 : WideMaps.KeyLaw Try.prog 116 := deep_law_laid keyLaid (m := 3) (by omega) keyRow keyDeep (by rw [Try.underlying116])
theorem keyLaw : Keyed Try.prog 116 := Keyed.of_law keyLaw0
theorem key_at {d s : Int} (hd : I64 d) (hs : I64 s) : ∃ l, keyOf Try.prog 116 (kv d s) = some l := by
  have hsz : ∃ m, Try.prog.types.size = m + 1 := ⟨Try.prog.types.size - 1, by have := keyRow; omega⟩
  have hkt : Try.prog.keyType 116 = true := by kernel_rfl
  have hc : Try.prog.cellsOf 116 = 2 := by kernel_rfl
  have hi : Try.prog.cellsOf 3 = 1 := by kernel_rfl
  have wd : (Lit.int .i64 d).wf = true := by unfold I64 at hd; exact WalkArith.wf_i64 (by omega)
  have ws : (Lit.int .i64 s).wf = true := by unfold I64 at hs; exact WalkArith.wf_i64 (by omega)
  obtain ⟨m, hm⟩ := hsz
  rw [← Option.isSome_iff_exists]
  unfold keyOf kv
  simp only [Try.underlying116]
  rw [if_pos (by simp [hkt, Value.formed, Try.underlying116, hc]), hm]
  unfold Program.keyLits
  simp only [Try.underlying116, Value.cells]
  rw [if_pos (by rw [hc]; exact ⟨rfl, by kernel_rfl⟩)]
  simp [hi, Program.keyLits, Try.underlying3, wd, ws]
/-- Block b is a map with these entries, in the order in which they were laid. -/
def MapB (w : World) (b : Nat) (L : List ((Int × Int) × Value)) : Prop :=
  ∃ es clock, w.heap[b]? = some (.map es clock) ∧ es.toList.map (fun e => (e.key, e.val)) = L.map (fun p => (kv p.1.1 p.1.2, p.2)) ∧ ∀ p, p ∈ L → I64 p.1.1 ∧ I64 p.1.2
theorem MapB.made (w : World) : MapB (w.alloc (.map #[] 0)) w.heap.size [] := ⟨#[], 0, (MapKept.heap_alloc w _).1, rfl, fun p hp => by cases hp⟩
theorem MapB.keep {w w' : World} {b : Nat} {L : List ((Int × Int) × Value)} (h : MapB w b L) (hk : w'.heap[b]? = w.heap[b]?) : MapB w' b L := by
  obtain ⟨es, clock, h1, h2⟩ := h
  exact ⟨es, clock, hk.trans h1, h2⟩
theorem MapB.lt {w : World} {b : Nat} {L : List ((Int × Int) × Value)} (h : MapB w b L) : b < w.heap.size := by
  obtain ⟨es, clock, hb, _⟩ := h
  exact (Array.getElem?_eq_some_iff.1 hb).1
theorem MapB.below {w w' : World} {b B : Nat} {L : List ((Int × Int) × Value)} (h : MapB w b L) (hb : Below B w w') (hB : b < B) : MapB w' b L := h.keep (hb.block b hB)
theorem MapB.later {w w' : World} {b : Nat} {L : List ((Int × Int) × Value)} (h : MapB w b L) (hb : Below w.heap.size w w') : MapB w' b L := h.keep (hb.block b h.lt)
theorem MapB.grown {w w' : World} {b : Nat} {row : Option Nat} {L : List ((Int × Int) × Value)} (h : MapB w b L) (hb : w.grownBy w' row) (hne : some b ≠ row) : MapB w' b L := h.keep (hb.block b h.lt hne)
theorem MapB.set_ {w : World} {b : Nat} {L : List ((Int × Int) × Value)} (h : MapB w b L) {p : Addr} (hp : b ≠ p.block) (u : Value) : MapB (w.setCell p u) b L := h.keep (Below.heap_setCell w p u b hp)
theorem MapB.alloc {w : World} {b : Nat} {L : List ((Int × Int) × Value)} (h : MapB w b L) (o : Obj) : MapB (w.alloc o) b L := h.keep (Below.heap_alloc w o b h.lt)
section
variable {w : World} {b : Nat} {L : List ((Int × Int) × Value)} {d s : Int}
theorem MapB.keys (h : MapB w b L) : ∃ es clock, w.heap[b]? = some (.map es clock) ∧ (∀ e, e ∈ es.toList → ∃ p, p ∈ L ∧ e.key = kv p.1.1 p.1.2 ∧ e.val = p.2) ∧ (∀ p, p ∈ L → ∃ e, e ∈ es.toList ∧ e.key = kv p.1.1 p.1.2 ∧ e.val = p.2) ∧ (∀ e, e ∈ es.toList → ∃ l, keyOf Try.prog 116 e.key = some l) := by
  obtain ⟨es, clock, hb, he, hi⟩ := h
  have h1 : ∀ e, e ∈ es.toList → ∃ p, p ∈ L ∧ e.key = kv p.1.1 p.1.2 ∧ e.val = p.2 := by
    intro e hm
    have : (e.key, e.val) ∈ es.toList.map (fun e => (e.key, e.val)) := List.mem_map_of_mem (f := fun e : MapEntry => (e.key, e.val)) hm
    rw [he] at this
    obtain ⟨p, hp, hq⟩ := List.mem_map.1 this
    simp only [Prod.mk.injEq] at hq
    exact ⟨p, hp, hq.1.symm, hq.2.symm⟩
  refine ⟨es, clock, hb, h1, fun p hp => ?_, fun e hm => ?_⟩
  · have : (kv p.1.1 p.1.2, p.2) ∈ L.map (fun p => (kv p.1.1 p.1.2, p.2)) := List.mem_map_of_mem (f := fun p : (Int × Int) × Value => (kv p.1.1 p.1.2, p.2)) hp
    rw [← he] at this
    obtain ⟨e, hm, hq⟩ := List.mem_map.1 this
    simp only [Prod.mk.injEq] at hq
    exact ⟨e, hm, hq.1, hq.2⟩
  · obtain ⟨p, hp, hk, _⟩ := h1 e hm
    rw [hk]
    exact key_at (hi p hp).1 (hi p hp).2
theorem run_look_no {t e : TypeId} {z : Value} (ht : Try.prog.underlying t = some (.map 116 e)) (hz : (zeroValue e).run Try.prog w = .ok z w) (h : MapB w b L) (hd : I64 d) (hs : I64 s) (hno : ∀ p, p ∈ L → p.1 ≠ (d, s)) :
    (Instr.lookup t (.map (some b)) (kv d s) true).run Try.prog w = .ok (.tuple #[z, .bool false]) w := by
  obtain ⟨es, clock, hb, h1, h2, h3⟩ := h.keys
  obtain ⟨l, hl⟩ := key_at hd hs
  rcases keyLaw.find w hl es.toList h3 with ⟨hf, _⟩ | ⟨j, e0, hf, hj, hk⟩
  · simp [Instr.lookup, run_underlying ht, MapKept.run_getObj_map hb, keyLaw.check w _ hl, hf, hz, Result.andThen]
  · exfalso
    obtain ⟨p, hp, hpk, _⟩ := h1 e0 (List.mem_of_getElem? hj)
    rw [hk] at hpk
    obtain ⟨e1, e2⟩ := kv_inj hpk
    exact hno p hp (by rw [e1, e2])
theorem run_look_yes {t e : TypeId} {v : Value} (ht : Try.prog.underlying t = some (.map 116 e)) (h : MapB w b L) (hd : I64 d) (hs : I64 s) (hv : ((d, s), v) ∈ L) (hu : ∀ p, p ∈ L → p.1 = (d, s) → p.2 = v) :
    (Instr.lookup t (.map (some b)) (kv d s) true).run Try.prog w = .ok (.tuple #[v, .bool true]) w := by
  obtain ⟨es, clock, hb, h1, h2, h3⟩ := h.keys
  obtain ⟨l, hl⟩ := key_at hd hs
  rcases keyLaw.find w hl es.toList h3 with ⟨hf, hno⟩ | ⟨j, e0, hf, hj, hk⟩
  · exfalso
    obtain ⟨e1, hm, hk, _⟩ := h2 _ hv
    exact hno e1 hm hk
  · obtain ⟨p, hp, hpk, hpv⟩ := h1 e0 (List.mem_of_getElem? hj)
    rw [hk] at hpk
    obtain ⟨e1, e2⟩ := kv_inj hpk
    have : e0.val = v := hpv.trans (hu p hp (by rw [e1, e2]))
    simp [Instr.lookup, run_underlying ht, MapKept.run_getObj_map hb, keyLaw.check w _ hl, hf, this, Result.andThen]
theorem run_store_new {t e : TypeId} {v : Value} (ht : Try.prog.underlying t = some (.map 116 e)) (h : MapB w b L) (hd : I64 d) (hs : I64 s) (hno : ∀ p, p ∈ L → p.1 ≠ (d, s)) :
    ∃ w', (Instr.mapUpdate t (.map (some b)) (kv d s) v).run Try.prog w = .ok () w' ∧ MapB w' b (L ++ [((d, s), v)]) ∧ w.grownBy w' (some b) := by
  obtain ⟨es, clock, hb, h1, h2, h3⟩ := h.keys
  obtain ⟨l, hl⟩ := key_at hd hs
  have hL := h
  obtain ⟨es', clock', hb', he', hi'⟩ := hL
  rw [hb] at hb'
  injection hb' with hb'
  injection hb' with hb1 hb2
  subst hb1
  rcases keyLaw.find w hl es.toList h3 with ⟨hf, _⟩ | ⟨j, e0, hf, hj, hk⟩
  · refine ⟨ChangeMaps.setBlock w b (.map (es.push ⟨kv d s, v, clock⟩) (clock + 1)), ?_, ⟨_, _, ChangeMaps.heap_setBlock_same hb _, ?_, ?_⟩, ⟨rfl, rfl, rfl, by simp [ChangeMaps.setBlock], fun i _ hi => ChangeMaps.heap_setBlock_other hb _ (fun e => hi (by rw [e]))⟩⟩
    · simp [Instr.mapUpdate, run_underlying ht, MapKept.run_getObj_map hb, keyLaw.check w false hl, hf, MapKept.run_setObj_map _ hb, Result.andThen, ChangeMaps.setBlock]
    · rw [Array.toList_push, List.map_append, he', List.map_append]; rfl
    · intro p hp
      rcases List.mem_append.1 hp with hp | hp
      · exact hi' p hp
      · rw [List.mem_singleton.1 hp]; exact ⟨hd, hs⟩
  · exfalso
    obtain ⟨p, hp, hpk, _⟩ := h1 e0 (List.mem_of_getElem? hj)
    rw [hk] at hpk
    obtain ⟨e1, e2⟩ := kv_inj hpk
    exact hno p hp (by rw [e1, e2])
variable {ops : Array Oper} {rest : List Oper} {o : Oper} {a : Act} {Q : Exit → Act → World → Prop}
theorem wpl_look_no (hg : o.guard = none) (m x : Operand) (t : TypeId) (hop : o.op = .lookup t m x true) (e : TypeId) (z : Value) (ht : Try.prog.underlying t = some (.map 116 e)) (hz : ∀ w, (zeroValue e).run Try.prog w = .ok z w)
    (h : MapB w b L) (hm : a.eval m = .map (some b)) (hx : a.eval x = .agg #[.int .i64 d, .int .i64 s]) (hd : I64 d) (hs : I64 s) (hno : ∀ p, p ∈ L → p.1 ≠ (d, s))
    (hK : wpList Try.prog ops Q rest (a.put o.dst (.tuple #[z, .bool false])) w) : wpList Try.prog ops Q (o :: rest) a w := by
  refine wpList_plain hg fun K' hK' => ?_
  have hrun := run_look_no ht (hz w) h hd hs hno
  unfold kv at hrun
  unfold Oper.wp
  simp [execOp, hop, hm, hx, hrun, Result.andThen]
  exact hK' _ _ hK
theorem wpl_look_yes (hg : o.guard = none) (m x : Operand) (t : TypeId) (hop : o.op = .lookup t m x true) (e : TypeId) (v : Value) (ht : Try.prog.underlying t = some (.map 116 e))
    (h : MapB w b L) (hm : a.eval m = .map (some b)) (hx : a.eval x = .agg #[.int .i64 d, .int .i64 s]) (hd : I64 d) (hs : I64 s) (hv : ((d, s), v) ∈ L) (hu : ∀ p, p ∈ L → p.1 = (d, s) → p.2 = v)
    (hK : wpList Try.prog ops Q rest (a.put o.dst (.tuple #[v, .bool true])) w) : wpList Try.prog ops Q (o :: rest) a w := by
  refine wpList_plain hg fun K' hK' => ?_
  have hrun := run_look_yes ht h hd hs hv hu
  unfold kv at hrun
  unfold Oper.wp
  simp [execOp, hop, hm, hx, hrun, Result.andThen]
  exact hK' _ _ hK
theorem wpl_store_new (hg : o.guard = none) (m x y : Operand) (t : TypeId) (hop : o.op = .mapUpdate t m x y) (e : TypeId) (v : Value) (ht : Try.prog.underlying t = some (.map 116 e))
    (h : MapB w b L) (hm : a.eval m = .map (some b)) (hx : a.eval x = .agg #[.int .i64 d, .int .i64 s]) (hv : a.eval y = v) (hd : I64 d) (hs : I64 s) (hno : ∀ p, p ∈ L → p.1 ≠ (d, s))
    (hK : ∀ w', MapB w' b (L ++ [((d, s), v)]) → w.grownBy w' (some b) → wpList Try.prog ops Q rest (a.put o.dst undef) w') : wpList Try.prog ops Q (o :: rest) a w := by
  refine wpList_plain hg fun K' hK' => ?_
  obtain ⟨w', hrun, r1, r2⟩ := run_store_new (v := v) ht h hd hs hno
  unfold kv at hrun
  unfold Oper.wp
  simp [execOp, hop, hm, hx, hv, hrun, Result.andThen]
  exact hK' _ _ (hK w' r1 r2)
end
end Go.Proofs.Ythnblhbdfpmolaa
