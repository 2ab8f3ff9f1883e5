/- A map from two nodes to an edge: how it lies, how it is read, written, and ranged over. -/
import Derived.Test.YtlbihfbeamlacaaHbxai
import Derived.DeepKeys4
import Derived.Maps.OwnOps
import Derived.Maps.RangeWalk
set_option linter.unusedSimpArgs false
set_option linter.unusedVariables false
set_option maxRecDepth 100000
set_option maxHeartbeats 6400000
namespace Go.Proofs.Ytlbihfbeamlacaa
open Go.RowKit
open Go.Maps (Keyed)
def kv (d s : Int) : Value:=.agg #[.int .i64 d,.int .i64 s]
theorem kv_inj {d s d' s' : Int} (h : kv d s=kv d' s') : d=d'∧s=s':=by simpa [kv] using h
theorem keyLaid : laidOutB Try.prog=true:=by kernel_rfl
theorem keyRow : (55 : Nat)<Try.prog.types.size:=of_decide_eq_true (by kernel_rfl)
theorem keyDeep : Try.prog.keyTypeAt 3 55=true:=by kernel_rfl
theorem keyLaw0 : WideMaps.KeyLaw Try.prog 55:=deep_law_laid keyLaid (m:=3) (by omega) keyRow keyDeep (by rw [Try.underlying55])
theorem keyLaw : Keyed Try.prog 55:=Keyed.of_law keyLaw0
theorem key_at {d s : Int} (hd : I64 d) (hs : I64 s) : ∃ l,keyOf Try.prog 55 (kv d s)=some l:=by
  have hsz : ∃ m,Try.prog.types.size=m+1:=⟨Try.prog.types.size - 1,by have:=keyRow; omega⟩
  have hkt : Try.prog.keyType 55=true:=by kernel_rfl
  have hc : Try.prog.cellsOf 55=2:=by kernel_rfl
  have hi : Try.prog.cellsOf 3=1:=by kernel_rfl
  have wd : (Lit.int .i64 d).wf=true:=by unfold I64 at hd; exact WalkArith.wf_i64 (by omega)
  have ws : (Lit.int .i64 s).wf=true:=by unfold I64 at hs; exact WalkArith.wf_i64 (by omega)
  obtain ⟨m,hm⟩:=hsz
  rw [← Option.isSome_iff_exists]
  unfold keyOf kv
  simp only [Try.underlying55]
  rw [if_pos (by simp [hkt,Value.formed,Try.underlying55,hc]),hm]
  unfold Program.keyLits
  simp only [Try.underlying55,Value.cells]
  rw [if_pos (by rw [hc]; rfl),show List.range 2=[0,1] from rfl]
  simp [hi,Program.keyLits,Try.underlying3,wd,ws]
def mkE (p : ED × Nat) : MapEntry:=⟨kv p.1.f p.1.t,p.1.v',p.2⟩
/-- Block b is a map with these entries. -/
def MapP (w : World) (b : Nat) (P : List (ED × Nat)) (clock : Nat) : Prop :=
  w.heap[b]? = some (.map (P.map mkE).toArray clock)∧(∀ p,p ∈ P→I64 p.1.f∧I64 p.1.t)∧(∀ p,p ∈ P→p.2<clock)∧(P.map (·.2)).Nodup
def MapE (w : World) (b : Nat) (l : List ED) : Prop:=∃ P clock,MapP w b P clock∧P.map (·.1)=l∧KeyD l
theorem MapE.made (w : World) : MapE (w.alloc (.map #[] 0)) w.heap.size []:=⟨[],0,⟨(MapKept.heap_alloc w _).1,fun p hp=>(nomatch hp),fun p hp=>(nomatch hp),List.Pairwise.nil⟩,rfl,List.Pairwise.nil⟩
theorem MapE.keep {w w' : World} {b : Nat} {l : List ED} (h : MapE w b l) (hk : w'.heap[b]? = w.heap[b]?) : MapE w' b l:=by
  obtain ⟨P,clock,h1,h2⟩:=h
  exact ⟨P,clock,⟨hk.trans h1.1,h1.2⟩,h2⟩
theorem MapE.lt {w : World} {b : Nat} {l : List ED} (h : MapE w b l) : b<w.heap.size:=by
  obtain ⟨P,clock,h1,h2⟩:=h
  exact (Array.getElem?_eq_some_iff.1 h1.1).1
theorem MapE.keyD {w : World} {b : Nat} {l : List ED} (h : MapE w b l) : KeyD l:=by
  obtain ⟨P,clock,h1,h2,h3⟩:=h
  exact h3
theorem MapE.later {w w' : World} {b : Nat} {l : List ED} (h : MapE w b l) (hb : Below w.heap.size w w') : MapE w' b l:=h.keep (hb.block b h.lt)
theorem MapE.below {w w' : World} {b B : Nat} {l : List ED} (h : MapE w b l) (hb : Below B w w') (hB : b<B) : MapE w' b l:=h.keep (hb.block b hB)
theorem MapE.grown {w w' : World} {b : Nat} {row : Option Nat} {l : List ED} (h : MapE w b l) (hb : w.grownBy w' row) (hne : some b≠row) : MapE w' b l:=h.keep (hb.block b h.lt hne)
theorem MapE.far {w : World} {b : Nat} {l : List ED} (h : MapE w b l) {p : Addr} (hp : b≠p.block) (u : Value) : MapE (w.setCell p u) b l:=h.keep (Below.heap_setCell w p u b hp)
theorem MapE.alloc {w : World} {b : Nat} {l : List ED} (h : MapE w b l) (o : Obj) : MapE (w.alloc o) b l:=h.keep (Below.heap_alloc w o b h.lt)
theorem MapE.drew {w : World} {b : Nat} {l : List ED} (h : MapE w b l) : MapE w.drew b l:=h
theorem mapE_ne {w : World} {b g : Nat} {l : List ED} {t : TypeId} {cs : Array Value} (h : MapE w b l) (hg : Blk w g t cs) : b≠g:=fun e=>by
  obtain ⟨P,clock,h1,_⟩:=h
  subst e
  unfold Blk at hg
  rw [h1.1] at hg
  injection hg with hg
  cases hg
section
variable {w : World} {b : Nat} {l : List ED} {d s : Int} {P : List (ED × Nat)} {clock : Nat}
theorem MapP.keys (h : MapP w b P clock) : ∀ e,e ∈ (P.map mkE).toArray.toList→∃ l,keyOf Try.prog 55 e.key=some l:=fun e hm=>by
  rw [List.toList_toArray] at hm
  obtain ⟨p,hp,rfl⟩:=List.mem_map.1 hm
  exact key_at (h.2.1 p hp).1 (h.2.1 p hp).2
theorem run_look_no {t e : TypeId} {z : Value} {co : Bool} (ht : Try.prog.underlying t=some (.map 55 e)) (hz : (zeroValue e).run Try.prog w = .ok z w) (h : MapE w b l) (hd : I64 d) (hs : I64 s) (hno : lkE l d s=none) :
    (Instr.lookup t (.map (some b)) (kv d s) co).run Try.prog w = .ok (if co then .tuple #[z,.bool false] else z) w:=by
  obtain ⟨P,clock,hP,rfl,hD⟩:=h
  obtain ⟨l,hl⟩:=key_at hd hs
  rcases keyLaw.find w hl _ hP.keys with ⟨hf,_⟩ | ⟨j,e0,hf,hj,hk⟩
  · cases co <;> simp [Instr.lookup,run_underlying ht,MapKept.run_getObj_map hP.1,keyLaw.check w _ hl,hf,hz,Result.andThen]
  · exfalso
    have hm:=List.mem_of_getElem? hj
    rw [List.toList_toArray] at hm
    obtain ⟨p,hp,rfl⟩:=List.mem_map.1 hm
    obtain ⟨e1,e2⟩:=kv_inj hk
    exact lkE_none hno p.1 (List.mem_map_of_mem (f:=fun p : ED × Nat=>p.1) hp) ⟨e1,e2⟩
theorem run_look_yes {t e : TypeId} {x : ED} {co : Bool} (ht : Try.prog.underlying t=some (.map 55 e)) (h : MapE w b l) (hd : I64 d) (hs : I64 s) (hx : lkE l d s=some x) :
    (Instr.lookup t (.map (some b)) (kv d s) co).run Try.prog w = .ok (if co then .tuple #[x.v',.bool true] else x.v') w:=by
  obtain ⟨P,clock,hP,rfl,hD⟩:=h
  obtain ⟨l,hl⟩:=key_at hd hs
  rcases keyLaw.find w hl _ hP.keys with ⟨hf,hno⟩ | ⟨j,e0,hf,hj,hk⟩
  · exfalso
    obtain ⟨p,hp,hpx⟩:=List.mem_map.1 (lkE_mem hx)
    obtain ⟨k1,k2⟩:=lkE_key hx
    refine hno (mkE p) (by rw [List.toList_toArray]; exact List.mem_map_of_mem hp) ?_
    show kv p.1.f p.1.t=kv d s
    rw [hpx,k1,k2]
  · have hm:=List.mem_of_getElem? hj
    rw [List.toList_toArray] at hm
    obtain ⟨p,hp,rfl⟩:=List.mem_map.1 hm
    obtain ⟨e1,e2⟩:=kv_inj hk
    have h1:=hD.lk (List.mem_map_of_mem (f:=fun p : ED × Nat=>p.1) hp)
    rw [e1,e2,hx] at h1
    replace h1:=Option.some.inj h1
    have hv : (mkE p).val=x.v':=by rw [h1]; rfl
    cases co <;> simp [Instr.lookup,run_underlying ht,MapKept.run_getObj_map hP.1,keyLaw.check w _ hl,hf,hv,Result.andThen]
theorem keyD_inj {l : List ED} (h : KeyD l) {i j : Nat} {a b : ED} (ha : l[i]? = some a) (hb : l[j]? = some b) (hf : a.f=b.f) (ht : a.t=b.t) : i=j:=by
  obtain ⟨hi,ea⟩:=List.getElem?_eq_some_iff.1 ha
  obtain ⟨hj,eb⟩:=List.getElem?_eq_some_iff.1 hb
  have hp:=List.pairwise_iff_getElem.1 h
  rcases Nat.lt_trichotomy i j with hlt | hlt | hlt
  · exact absurd ⟨by rw [ea,eb]; exact hf,by rw [ea,eb]; exact ht⟩ (hp i j hi hj hlt)
  · exact hlt
  · exact absurd ⟨by rw [ea,eb]; exact hf.symm,by rw [ea,eb]; exact ht.symm⟩ (hp j i hj hi hlt)
/-- The store: what the map holds then, and nothing else changed. -/
theorem run_store_E {t e : TypeId} {x : ED} (ht : Try.prog.underlying t=some (.map 55 e)) (h : MapE w b l) (hd : I64 x.f) (hs : I64 x.t) :
    ∃ w',(Instr.mapUpdate t (.map (some b)) (kv x.f x.t) x.v').run Try.prog w = .ok () w'∧MapE w' b (match lkE l x.f x.t with | some _=>putE x l | none=>l ++ [x])∧w.grownBy w' (some b)∧w'.heap.size=w.heap.size:=by
  obtain ⟨P,clock,hP,rfl,hD⟩:=h
  obtain ⟨kl,hl⟩:=key_at hd hs
  obtain ⟨hb,hI,hB,hN⟩:=hP
  rcases keyLaw.find w hl _ (MapP.keys ⟨hb,hI,hB,hN⟩) with ⟨hf,hno⟩ | ⟨j,e0,hf,hj,hk⟩
  · have hnone : lkE (P.map (·.1)) x.f x.t=none:=by
      cases hc : lkE (P.map (·.1)) x.f x.t with
      | none=>rfl
      | some y =>
        exfalso
        obtain ⟨p,hp,hpx⟩:=List.mem_map.1 (lkE_mem hc)
        obtain ⟨k1,k2⟩:=lkE_key hc
        refine hno (mkE p) (by rw [List.toList_toArray]; exact List.mem_map_of_mem hp) ?_
        show kv p.1.f p.1.t=kv x.f x.t
        rw [hpx,k1,k2]
    rw [hnone]
    refine ⟨ChangeMaps.setBlock w b (.map ((P.map mkE).toArray.push ⟨kv x.f x.t,x.v',clock⟩) (clock+1)), ?_,⟨P ++ [(x,clock)],clock+1,⟨?_, ?_, ?_, ?_⟩,by simp,hD.snoc hnone⟩,⟨rfl,rfl,rfl,by simp [ChangeMaps.setBlock],fun i _ hi=>ChangeMaps.heap_setBlock_other hb _ (fun e=>hi (by rw [e]))⟩,by simp [ChangeMaps.setBlock]⟩
    · simp [Instr.mapUpdate,run_underlying ht,MapKept.run_getObj_map hb,keyLaw.check w false hl,hf,MapKept.run_setObj_map _ hb,Result.andThen,ChangeMaps.setBlock]
    · rw [ChangeMaps.heap_setBlock_same hb]
      simp [mkE]
    · intro p hp
      rcases List.mem_append.1 hp with hp | hp
      · exact hI p hp
      · rw [List.mem_singleton.1 hp]; exact ⟨hd,hs⟩
    · intro p hp
      rcases List.mem_append.1 hp with hp | hp
      · have:=hB p hp; omega
      · rw [List.mem_singleton.1 hp]; exact Nat.lt_succ_self _
    · rw [List.map_append]
      refine List.nodup_append.2 ⟨hN,by simp,fun a ha c hc=>?_⟩
      simp only [List.map_cons,List.map_nil,List.mem_singleton] at hc
      obtain ⟨p,hp,rfl⟩:=List.mem_map.1 ha
      have:=hB p hp
      omega
  · rw [List.toList_toArray] at hj
    have hj0:=hj
    rw [List.getElem?_map] at hj
    obtain ⟨p,hp,rfl⟩:=Option.map_eq_some_iff.1 hj
    obtain ⟨e1,e2⟩:=kv_inj hk
    have hpm : (P.map (·.1))[j]? = some p.1:=by rw [List.getElem?_map,hp]; rfl
    have hlk:=hD.lk (List.mem_of_getElem? hpm)
    rw [e1,e2] at hlk
    rw [hlk]
    obtain ⟨hjl,hje⟩:=List.getElem?_eq_some_iff.1 hp
    have hey : ((P.map mkE).toArray[j]?.map (·.key)).getD (kv x.f x.t)=kv x.f x.t:=by
      rw [List.getElem?_toArray,hj0]
      simp only [Option.map_some,Option.getD_some]
      exact hk
    refine ⟨ChangeMaps.setBlock w b (.map ((P.map mkE).toArray.modify j fun e=>{ e with key:=kv x.f x.t,val:=x.v' }) clock), ?_,⟨P.set j (x,p.2),clock,⟨?_, ?_, ?_, ?_⟩, ?_,hD.put x⟩,⟨rfl,rfl,rfl,by simp [ChangeMaps.setBlock],fun i _ hi=>ChangeMaps.heap_setBlock_other hb _ (fun e=>hi (by rw [e]))⟩,by simp [ChangeMaps.setBlock]⟩
    · simp [Instr.mapUpdate,run_underlying ht,MapKept.run_getObj_map hb,keyLaw.check w false hl,hf,hp,hk,keyLaw.stays w hl,MapKept.run_setObj_map _ hb,Result.andThen,ChangeMaps.setBlock]
    · rw [ChangeMaps.heap_setBlock_same hb]
      refine congrArg (fun a=>some (Obj.map a clock)) ?_
      apply Array.ext_getElem?
      intro i
      rw [Array.getElem?_modify,List.getElem?_toArray,List.getElem?_toArray,List.getElem?_map,List.getElem?_map,List.getElem?_set]
      by_cases hij : j=i
      · subst hij
        rw [if_pos rfl,if_pos rfl,if_pos hjl,hp]
        rfl
      · rw [if_neg hij,if_neg hij]
    · intro q hq
      rcases List.mem_or_eq_of_mem_set hq with hq | rfl
      · exact hI q hq
      · exact ⟨hd,hs⟩
    · intro q hq
      rcases List.mem_or_eq_of_mem_set hq with hq | rfl
      · exact hB q hq
      · exact hB p (List.mem_of_getElem? hp)
    · have : (P.set j (x,p.2)).map (·.2)=P.map (·.2):=by
        apply List.ext_getElem?
        intro i
        rw [List.getElem?_map,List.getElem?_map,List.getElem?_set]
        by_cases hij : j=i
        · subst hij
          rw [if_pos rfl,if_pos hjl,hp]
          rfl
        · rw [if_neg hij]
      rw [this]; exact hN
    · apply List.ext_getElem?
      intro i
      unfold putE
      rw [List.getElem?_map,List.getElem?_map,List.getElem?_set,List.getElem?_map]
      by_cases hij : j=i
      · subst hij
        rw [if_pos rfl,if_pos hjl,hp]
        simp only [Option.map_some]
        rw [if_pos (keyE_iff.2 ⟨e1,e2⟩)]
      · rw [if_neg hij]
        cases hq : P[i]? with
        | none=>rfl
        | some q =>
          simp only [Option.map_some]
          rw [if_neg (nk fun hc=>hij ?_)]
          exact keyD_inj hD hpm (by rw [List.getElem?_map,hq]; rfl) (e1.trans hc.1.symm) (e2.trans hc.2.symm)
variable {ops : Array Oper} {rest : List Oper} {o : Oper} {a : Act} {Q : Exit→Act→World→Prop}
theorem exec_look_no {a : Act} {m x : Operand} {t e : TypeId} {z : Value} (hop : o.op = .lookup t m x true) (ht : Try.prog.underlying t=some (.map 55 e)) (hz : ∀ w,(zeroValue e).run Try.prog w = .ok z w)
    (h : MapE w b l) (hm : a.eval m = .map (some b)) (hx : a.eval x = .agg #[.int .i64 d,.int .i64 s]) (hd : I64 d) (hs : I64 s) (hno : lkE l d s=none) : (execOp a.eval o).run Try.prog w = .ok (.value (.tuple #[z,.bool false])) w:=by
  have hrun:=run_look_no (co:=true) ht (hz w) h hd hs hno
  unfold kv at hrun
  simp [execOp,hop,hm,hx,hrun,Result.andThen]
theorem exec_look_yes {a : Act} {m x : Operand} {t e : TypeId} {v : ED} (hop : o.op = .lookup t m x true) (ht : Try.prog.underlying t=some (.map 55 e))
    (h : MapE w b l) (hm : a.eval m = .map (some b)) (hx : a.eval x = .agg #[.int .i64 d,.int .i64 s]) (hd : I64 d) (hs : I64 s) (hv : lkE l d s=some v) : (execOp a.eval o).run Try.prog w = .ok (.value (.tuple #[.agg #[.int .i64 v.f,.int .i64 v.t,.int .i64 v.n,.int .i64 v.v],.bool true])) w:=by
  have hrun:=run_look_yes (co:=true) ht h hd hs hv
  unfold kv at hrun
  simp [execOp,hop,hm,hx,hrun,Result.andThen,ED.v']
theorem exec_look_val {a : Act} {m x : Operand} {t e : TypeId} {v : ED} (hop : o.op = .lookup t m x false) (ht : Try.prog.underlying t=some (.map 55 e))
    (h : MapE w b l) (hm : a.eval m = .map (some b)) (hx : a.eval x = .agg #[.int .i64 d,.int .i64 s]) (hd : I64 d) (hs : I64 s) (hv : lkE l d s=some v) : (execOp a.eval o).run Try.prog w = .ok (.value (.agg #[.int .i64 v.f,.int .i64 v.t,.int .i64 v.n,.int .i64 v.v])) w:=by
  have hrun:=run_look_yes (co:=false) ht h hd hs hv
  unfold kv at hrun
  simp [execOp,hop,hm,hx,hrun,Result.andThen,ED.v']
theorem wpl_look_no (hg : o.guard=none) (m x : Operand) (t : TypeId) (hop : o.op = .lookup t m x true) (e : TypeId) (z : Value) (ht : Try.prog.underlying t=some (.map 55 e)) (hz : ∀ w,(zeroValue e).run Try.prog w = .ok z w)
    (h : MapE w b l) (hm : a.eval m = .map (some b)) (hx : a.eval x = .agg #[.int .i64 d,.int .i64 s]) (hd : I64 d) (hs : I64 s) (hno : lkE l d s=none)
    (hK : wpList Try.prog ops Q rest (a.put o.dst (.tuple #[z,.bool false])) w) : wpList Try.prog ops Q (o :: rest) a w:=by
  refine wpList_plain hg fun K' hK'=>?_
  have hrun:=run_look_no (co:=true) ht (hz w) h hd hs hno
  unfold kv at hrun
  unfold Oper.wp
  simp [execOp,hop,hm,hx,hrun,Result.andThen]
  exact hK' _ _ hK
theorem wpl_look_yes (hg : o.guard=none) (m x : Operand) (t : TypeId) (hop : o.op = .lookup t m x true) (e : TypeId) (v : ED) (ht : Try.prog.underlying t=some (.map 55 e))
    (h : MapE w b l) (hm : a.eval m = .map (some b)) (hx : a.eval x = .agg #[.int .i64 d,.int .i64 s]) (hd : I64 d) (hs : I64 s) (hv : lkE l d s=some v)
    (hK : wpList Try.prog ops Q rest (a.put o.dst (.tuple #[.agg #[.int .i64 v.f,.int .i64 v.t,.int .i64 v.n,.int .i64 v.v],.bool true])) w) : wpList Try.prog ops Q (o :: rest) a w:=by
  refine wpList_plain hg fun K' hK'=>?_
  have hrun:=run_look_yes (co:=true) ht h hd hs hv
  unfold kv at hrun
  unfold Oper.wp
  simp [execOp,hop,hm,hx,hrun,Result.andThen]
  exact hK' _ _ hK
theorem wpl_look_val (hg : o.guard=none) (m x : Operand) (t : TypeId) (hop : o.op = .lookup t m x false) (e : TypeId) (v : ED) (ht : Try.prog.underlying t=some (.map 55 e))
    (h : MapE w b l) (hm : a.eval m = .map (some b)) (hx : a.eval x = .agg #[.int .i64 d,.int .i64 s]) (hd : I64 d) (hs : I64 s) (hv : lkE l d s=some v)
    (hK : wpList Try.prog ops Q rest (a.put o.dst (.agg #[.int .i64 v.f,.int .i64 v.t,.int .i64 v.n,.int .i64 v.v])) w) : wpList Try.prog ops Q (o :: rest) a w:=by
  refine wpList_plain hg fun K' hK'=>?_
  have hrun:=run_look_yes (co:=false) ht h hd hs hv
  unfold kv at hrun
  unfold Oper.wp
  simp [execOp,hop,hm,hx,hrun,Result.andThen]
  exact hK' _ _ hK
theorem wpl_store_E (hg : o.guard=none) (m x y : Operand) (t : TypeId) (hop : o.op = .mapUpdate t m x y) (e : TypeId) (v : ED) (ht : Try.prog.underlying t=some (.map 55 e))
    (h : MapE w b l) (hm : a.eval m = .map (some b)) (hx : a.eval x = .agg #[.int .i64 v.f,.int .i64 v.t]) (hv : a.eval y = .agg #[.int .i64 v.f,.int .i64 v.t,.int .i64 v.n,.int .i64 v.v]) (hd : I64 v.f) (hs : I64 v.t)
    (hK : ∀ w',MapE w' b (match lkE l v.f v.t with | some _=>putE v l | none=>l ++ [v])→w.grownBy w' (some b)→w'.heap.size=w.heap.size→wpList Try.prog ops Q rest (a.put o.dst undef) w') : wpList Try.prog ops Q (o :: rest) a w:=by
  refine wpList_plain hg fun K' hK'=>?_
  obtain ⟨w',hrun,r1,r2,r3⟩:=run_store_E (x:=v) ht h hd hs
  unfold kv ED.v' at hrun
  unfold Oper.wp
  simp [execOp,hop,hm,hx,hv,hrun,Result.andThen]
  exact hK' _ _ (hK w' r1 r2 r3)
theorem wpl_len_E (hg : o.guard=none) (m : Operand) (t : TypeId) (hop : o.op=Op.call { callee:=Callee.builtin Builtin.len,args:=#[m],argTypes:=#[t] }) (e : TypeId) (ht : Try.prog.underlying t=some (.map 55 e))
    (h : MapE w b l) (hm : a.eval m = .map (some b)) (hK : wpList Try.prog ops Q rest (a.put o.dst (.int .i64 (l.length : Nat))) w) : wpList Try.prog ops Q (o :: rest) a w:=by
  refine wpList_plain hg fun K' hK'=>?_
  obtain ⟨P,clock,hP,rfl,_⟩:=h
  unfold Oper.wp
  simp [execOp,hop,resolve,invoke,builtin,hm,Builtin.len_,run_underlying ht,MapKept.run_getObj_map hP.1,goInt,Result.andThen]
  refine hK' _ _ ?_
  rw [List.length_map] at hK
  exact hK
theorem run_len_E {t e ty : TypeId} (ht : Try.prog.underlying t=some (.map 55 e)) (h : MapE w b l) : (Builtin.len_ #[t] ty #[.map (some b)]).run Try.prog w = .ok (.int .i64 (l.length : Nat)) w:=by
  obtain ⟨P,clock,hP,rfl,_⟩:=h
  simp [Builtin.len_,run_underlying ht,MapKept.run_getObj_map hP.1,goInt,Result.andThen]
/-- Block r is an iterator over the map in block b; what has come out, and what is left. -/
def RngE (w : World) (b r : Nat) (l : List ED) (out : List ED) : Prop:=∃ P clock seen,MapP w b P clock∧P.map (·.1)=l∧w.heap[r]? = some (.mapIter (some b) clock seen clock)∧(out ++ (P.filter fun p=>!seen.contains p.2).map (·.1)).Perm l
theorem RngE.len {r : Nat} {out : List ED} (h : RngE w b r l out) : out.length≤l.length:=by
  obtain ⟨P,clock,seen,_,_,_,hp⟩:=h
  have:=hp.length_eq
  rw [List.length_append] at this
  omega
theorem RngE.keep {w' : World} {r : Nat} {out : List ED} (h : RngE w b r l out) (h1 : w'.heap[b]? = w.heap[b]?) (h2 : w'.heap[r]? = w.heap[r]?) : RngE w' b r l out:=by
  obtain ⟨P,clock,seen,hP,hl,hr,hp⟩:=h
  exact ⟨P,clock,seen,⟨h1.trans hP.1,hP.2⟩,hl,h2.trans hr,hp⟩
theorem RngE.lt {r : Nat} {out : List ED} (h : RngE w b r l out) : b<w.heap.size∧r<w.heap.size:=by
  obtain ⟨P,clock,seen,hP,hl,hr,hp⟩:=h
  exact ⟨(Array.getElem?_eq_some_iff.1 hP.1).1,(Array.getElem?_eq_some_iff.1 hr).1⟩
theorem RngE.below {w' : World} {B r : Nat} {out : List ED} (h : RngE w b r l out) (hb : Below B w w') (h1 : b<B) (h2 : r<B) : RngE w' b r l out:=h.keep (hb.block b h1) (hb.block r h2)
theorem RngE.grown {w' : World} {row : Option Nat} {r : Nat} {out : List ED} (h : RngE w b r l out) (hb : w.grownBy w' row) (h1 : some b≠row) (h2 : some r≠row) : RngE w' b r l out:=h.keep (hb.block b h.lt.1 h1) (hb.block r h.lt.2 h2)
theorem RngE.far {r : Nat} {out : List ED} {p : Addr} (h : RngE w b r l out) (h1 : b≠p.block) (h2 : r≠p.block) (u : Value) : RngE (w.setCell p u) b r l out:=h.keep (Below.heap_setCell w p u b h1) (Below.heap_setCell w p u r h2)
theorem RngE.alloc {r : Nat} {out : List ED} (h : RngE w b r l out) (o : Obj) : RngE (w.alloc o) b r l out:=h.keep (Below.heap_alloc w o b h.lt.1) (Below.heap_alloc w o r h.lt.2)
theorem perm_filter {α : Type} {p : α} {k : α→Nat} : ∀ {l : List α},(l.map k).Nodup→p ∈ l→l.Perm (p :: l.filter fun q=>!decide (k q=k p))
  | [],_,h=>by cases h
  | x :: l,hn,h=>by
    rw [List.map_cons,List.nodup_cons] at hn
    rcases List.mem_cons.1 h with rfl | h
    · rw [List.filter_cons,if_neg (by simp),List.filter_eq_self.2 (fun q hq=>by
        simp only [Bool.not_eq_true',decide_eq_false_iff_not]
        exact fun hc=>hn.1 (by rw [← hc]; exact List.mem_map_of_mem hq))]
    · have hx : k x≠k p:=fun hc=>hn.1 (by rw [hc]; exact List.mem_map_of_mem h)
      rw [List.filter_cons,if_pos (by simp [hx])]
      exact ((perm_filter hn.2 h).cons x).trans (List.Perm.swap p x _)
theorem wpl_range_E (hg : o.guard=none) (m : Operand) (t : TypeId) (hop : o.op = .range t m) (e : TypeId) (ht : Try.prog.underlying t=some (.map 55 e)) (h : MapE w b l) (hm : a.eval m = .map (some b))
    (hK : ∀ w',RngE w' b w.heap.size l []→(∃ i,w'=w.alloc i)→wpList Try.prog ops Q rest (a.put o.dst (.pointer (some ⟨w.heap.size,0,none⟩))) w') : wpList Try.prog ops Q (o :: rest) a w:=by
  refine wpList_plain hg fun K' hK'=>?_
  obtain ⟨P,clock,hP,rfl,_⟩:=h
  have hrun:=run_range_map w t 55 e b _ clock ht hP.1
  unfold Oper.wp
  simp [execOp,hop,hm,hrun,Result.andThen]
  refine hK' _ _ (hK _ ⟨P,clock,#[],⟨(Below.heap_alloc w _ b (Array.getElem?_eq_some_iff.1 hP.1).1).trans hP.1,hP.2⟩,rfl,heap_alloc_new w _, ?_⟩ ⟨_,rfl⟩)
  rw [List.nil_append,List.filter_eq_self.2 (fun p hp=>by simp)]
theorem wpl_next_E (hg : o.guard=none) (it : Operand) (hop : o.op=Op.next it false) {r : Nat} {out : List ED} (hit : a.eval it = .pointer (some ⟨r,0,none⟩)) (h : RngE w b r l out)
    (hDone : out.Perm l→wpList Try.prog ops Q rest (a.put o.dst (.tuple #[.bool false])) w)
    (hMore : ∀ (x : ED) (w' : World),x ∈ l→out.length<l.length→RngE w' b r l (out ++ [x])→w.grownBy w' (some r)→w'.heap.size=w.heap.size →
      (Instr.entry (.pointer (some ⟨r,0,none⟩))).run Try.prog w' = .ok (.tuple #[.agg #[.int .i64 x.f,.int .i64 x.t],.agg #[.int .i64 x.f,.int .i64 x.t,.int .i64 x.n,.int .i64 x.v]]) w'→wpList Try.prog ops Q rest (a.put o.dst (.tuple #[.bool true,.agg #[.int .i64 x.f,.int .i64 x.t],.agg #[.int .i64 x.f,.int .i64 x.t,.int .i64 x.n,.int .i64 x.v]])) w') :
    wpList Try.prog ops Q (o :: rest) a w:=by
  refine wpList_plain hg fun K' hK'=>?_
  obtain ⟨P,clock,seen,hP,rfl,hr,hp⟩:=h
  have hold : ∀ x ∈ (P.map mkE).toArray.toList,x.born<clock:=fun x hx=>by
    rw [List.toList_toArray] at hx
    obtain ⟨p,hq,rfl⟩:=List.mem_map.1 hx
    exact hP.2.2.1 p hq
  have hlo : (leftOf (P.map mkE).toArray seen).toList=(P.filter fun p=>!seen.contains p.2).map mkE:=by
    unfold leftOf
    rw [Array.toList_filter,List.toList_toArray,List.filter_map]
    rfl
  rcases run_next_at (P:=Try.prog) w o.type r b clock clock seen _ clock hr hP.1 hold (Nat.le_refl _) with ⟨h0,hrun⟩ | ⟨e,he,w1,hw1,hrun⟩
  · have hnil : (P.filter fun p=>!seen.contains p.2)=[]:=by
      have h1 : (leftOf (P.map mkE).toArray seen).toList.length=0:=by rw [Array.length_toList]; exact h0
      rw [hlo,List.length_map] at h1
      exact List.eq_nil_of_length_eq_zero h1
    rw [hnil,List.map_nil,List.append_nil] at hp
    unfold Oper.wp
    simp [execOp,hop,hit,hrun,Result.andThen]
    exact hK' _ _ (hDone hp)
  · rw [hlo] at he
    obtain ⟨p,hpf,rfl⟩:=List.mem_map.1 he
    have hpP:=(List.mem_filter.1 hpf).1
    have hNf : ((P.filter fun p=>!seen.contains p.2).map (·.2)).Nodup:=hP.2.2.2.sublist (List.Sublist.map _ List.filter_sublist)
    have hpm:=perm_filter (p:=p) (k:=fun q : ED × Nat=>q.2) hNf hpf
    have hff : ((P.filter fun p=>!seen.contains p.2).filter fun q=>!decide (q.2=p.2))=P.filter fun q=>!(seen.push p.2).contains q.2:=by
      rw [List.filter_filter]
      refine List.filter_congr fun q _=>?_
      rw [Array.contains_push]
      cases seen.contains q.2 <;> by_cases hq : q.2=p.2 <;> simp [hq]
    rw [hff] at hpm
    have hb1 : w1.heap=w.heap∧w1.os=w.os∧w1.tape=w.tape∧w1.output=w.output:=by rcases hw1 with rfl | rfl <;> exact ⟨rfl,rfl,rfl,rfl⟩
    have hrl : r<w1.heap.size:=by rw [hb1.1]; exact (Array.getElem?_eq_some_iff.1 hr).1
    have hbr : b≠r:=fun hc=>by
      rw [hc] at hP
      have h2:=hP.1
      rw [hr] at h2
      injection h2 with h2
      cases h2
    have hother : ∀ i,i≠r→(ChangeMaps.setBlock w1 r (.mapIter (some b) clock (seen.push p.2) clock)).heap[i]? = w.heap[i]?:=fun i hi=>by
      unfold ChangeMaps.setBlock
      rw [Array.getElem?_setIfInBounds_ne (Ne.symm hi),hb1.1]
    have hsame : (ChangeMaps.setBlock w1 r (.mapIter (some b) clock (seen.push p.2) clock)).heap[r]? = some (.mapIter (some b) clock (seen.push p.2) clock):=by
      unfold ChangeMaps.setBlock
      rw [Array.getElem?_setIfInBounds_self,if_pos hrl]
    have hR : RngE (ChangeMaps.setBlock w1 r (.mapIter (some b) clock (seen.push p.2) clock)) b r (P.map (·.1)) (out ++ [p.1]):=by
      refine ⟨P,clock,seen.push p.2,⟨(hother b hbr).trans hP.1,hP.2⟩,rfl,hsame, ?_⟩
      refine List.Perm.trans ?_ hp
      rw [List.append_assoc,List.singleton_append]
      have h3:=hpm.map (fun p : ED × Nat=>p.1)
      rw [List.map_cons] at h3
      exact (List.Perm.append_left out h3.symm)
    have hent:=run_entry_at (P:=Try.prog) (ChangeMaps.setBlock w1 r (.mapIter (some b) clock (seen.push p.2) clock)) r b clock seen (P.map mkE).toArray clock (mkE p) hsame ((hother b hbr).trans hP.1) (by rw [List.toList_toArray]; exact List.mem_map_of_mem hpP) (by rw [List.toList_toArray,List.map_map]; exact hP.2.2.2)
    have hlen : out.length<(P.map (·.1)).length:=by
      have h4:=hp.length_eq
      have h5 : 0<(P.filter fun p=>!seen.contains p.2).length:=List.length_pos_of_mem hpf
      rw [List.length_append,List.length_map] at h4
      omega
    unfold Oper.wp
    simp only [mkE] at hrun hent
    unfold kv ED.v' at hrun hent
    simp [execOp,hop,hit,hrun,Result.andThen]
    exact hK' _ _ (hMore p.1 _ (List.mem_map_of_mem (f:=fun p : ED × Nat=>p.1) hpP) hlen hR ⟨hb1.2.1,hb1.2.2.1,hb1.2.2.2,by simp [ChangeMaps.setBlock,hb1.1],fun i _ hi=>hother i (fun e=>hi (by rw [e]))⟩ (by simp [ChangeMaps.setBlock,hb1.1]) hent)
end
end Go.Proofs.Ytlbihfbeamlacaa
