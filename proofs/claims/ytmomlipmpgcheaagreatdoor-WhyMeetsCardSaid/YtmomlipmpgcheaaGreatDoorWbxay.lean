/- slices.Sort and slices.Compact of a row of the call's own, by the library's contracts. -/
import Derived.Test.YtmomlipmpgcheaaGreatDoorWbxaw
import Derived.Test.YtmomlipmpgcheaaGreatDoorWbxax
import Derived.Sort.OwnSortedInts
import Derived.Test.YtmomlipmpgcheaaGreatDoorWbxav
import Derived.Test.YtmomlipmpgcheaaGreatDoorWbxau
set_option linter.unusedSimpArgs false
set_option linter.unusedVariables false
set_option maxRecDepth 100000
set_option maxHeartbeats 6400000
namespace Go.Proofs.YtmomlipmpgcheaaGreatDoor
open Go.RowKit
section
variable {α : Type} {base k : Nat} {e : TypeId} {enc : α→List Value} {w : World} {s : Sl α}
theorem Own.blk {g : Nat} (h : Own base e k enc w s) (hA : s.A=some ⟨g,0,none⟩) : ∃ cur : Array Value,Blk w g e cur∧cur.size=s.c * k∧cur.toList.take (s.l.length * k)=s.l.flatMap enc∧s.l.length≤s.c∧s.c≤maxLen∧base≤g:=by
  rcases h.2 with ⟨hv,_⟩ | ⟨g',cap,cur,hv,hb,hh,hnc,hcm,hcs,htk⟩
  · rw [hA] at hv; cases hv
  · rw [hA] at hv
    injection hv with h1 h2 h3
    injection h1 with h1
    injection h1 with h1
    subst h1; subst h3
    exact ⟨cur,hh,hcs,htk,hnc,hcm,hb⟩
theorem Own.of_blk {g c : Nat} {l : List α} {cur : Array Value} (hk : ∀ x,(enc x).length=k) (h : Blk w g e cur) (hs : cur.size=c * k) (ht : cur.toList.take (l.length * k)=l.flatMap enc) (hl : l.length≤c) (hc : c≤maxLen) (hb : base≤g) :
    Own base e k enc w ⟨some ⟨g,0,none⟩,c,l⟩ :=
  ⟨flat_len hk l,.inr ⟨g,c,cur,rfl,hb,h,hl,hc,hs,ht⟩⟩
end
theorem ienc_map (l : List Int) : l.flatMap ienc=l.map (Value.int .i64):=by
  induction l with
  | nil=>rfl
  | cons x r ih=>simp only [List.flatMap_cons,List.map_cons,ienc,ih]; rfl
theorem sort_own (base g c : Nat) (s : List Int) (w : World) (hown : Own base 3 1 ienc w ⟨some ⟨g,0,none⟩,c,s⟩) (hm : s.length≤1000) (hbase : base≤w.heap.size) :
    Calls Tryz.prog 46 #[.slice (some ⟨g,0,none⟩) s.length c] w fun e w'=>e = .returned (.tuple #[])∧Own base 3 1 ienc w' ⟨some ⟨g,0,none⟩,c,s.mergeSort fun x y=>decide (x≤y)⟩∧Below base w w':=by
  obtain ⟨cur,hB,hcs,htk,hlc,hcm,hbg⟩:=hown.blk rfl
  simp only [Nat.mul_one] at hcs htk hlc hcm
  rw [ienc_map] at htk
  have hH:=Go.holds_of_blockI (w:=w) (g:=g) (e:=3) (ss:=s) hB htk
  refine (Go.Proofs.Tryz.slices_Sort_int g 0 c s w hH hB.lt (by omega)).mono ?_
  rintro e w' ⟨rfl,n,os,rfl⟩
  refine ⟨rfl, ?_, ?_⟩
  · unfold Own
    simp only [List.length_mergeSort,ienc_map]
    exact Go.ownsRow_sortedI (by simp) hbg hB hlc hcm (by omega)
  · exact (Below.refl base w).grown (Go.grownBy_sortedI _) hbase (fun j hj=>by cases hj; exact hbg)
theorem compact_own (base g c : Nat) (s : List Int) (w : World) (hown : Own base 3 1 ienc w ⟨some ⟨g,0,none⟩,c,s⟩) (hm : s.length≤1000) (hbase : base≤w.heap.size) :
    Calls Tryz.prog 50 #[.slice (some ⟨g,0,none⟩) s.length c] w fun e w'=>e = .returned (.slice (some ⟨g,0,none⟩) (Lib.compact s).length c)∧Below base w w':=by
  obtain ⟨cur,hB,hcs,htk,hlc,hcm,hbg⟩:=hown.blk rfl
  simp only [Nat.mul_one] at hcs htk hlc hcm
  rw [ienc_map] at htk
  have hH:=Go.holds_of_blockI (w:=w) (g:=g) (e:=3) (ss:=s) hB htk
  refine (Go.Proofs.Tryz.slices_Compact_int g 0 c s w hH (by omega) hlc).mono ?_
  rintro e w' ⟨rfl,q,rfl⟩
  refine ⟨rfl, ?_⟩
  refine (Below.refl base w).grown (row:=some g) ⟨rfl,rfl,rfl,by simp [Go.Sort.putRow,Go.Sort.mapBlock,Go.Sort.ahead],fun k hk hne=>?_⟩ hbase (fun j hj=>by cases hj; exact hbg)
  have : g≠k:=fun e=>hne (by rw [e])
  simp [Go.Sort.putRow,Go.Sort.mapBlock,Go.Sort.ahead,Array.getElem?_modify,this]
def wideB (s : List Int) : Bool:=s.any (fun x=>decide (x < -1000000000000000) || decide (1000000000000000<x))
theorem sort3 (s : List Int) (h1 : 1≤s.length) (h3 : s.length≤3) : ∃ t,(s.mergeSort fun x y=>decide (x≤y))=t∧t.Pairwise (·≤·)∧t.length=s.length∧(t.Nodup↔s.Nodup)∧wideB t=wideB s:=by
  have hp:=List.mergeSort_perm s fun x y=>decide (x≤y)
  refine ⟨_,rfl, ?_,List.length_mergeSort s,hp.nodup_iff, ?_⟩
  · exact (List.pairwise_mergeSort (le:=fun (x y : Int)=>decide (x≤y)) (fun a b c hab hbc=>by simp at *; omega) (fun a b=>by simp; omega) s).imp (fun h=>by simpa using h)
  · unfold wideB
    rw [Bool.eq_iff_iff,List.any_eq_true,List.any_eq_true]
    exact ⟨fun ⟨x,hx,h⟩=>⟨x,hp.mem_iff.1 hx,h⟩,fun ⟨x,hx,h⟩=>⟨x,hp.mem_iff.2 hx,h⟩⟩
theorem comp1 (a : Int) : (Lib.compact [a]).length=1:=rfl
theorem comp2 (a b : Int) : (Lib.compact [a,b]).length=1+(if b=a then 0 else 1):=by
  simp only [Lib.compact,Lib.compactUpTo,List.length_cons,List.length_nil,List.range_succ,List.range_zero,Lib.keeps]
  by_cases h : b=a <;> simp [h,Lib.keeps]
theorem comp3 (a b c : Int) : (Lib.compact [a,b,c]).length=1+(if b=a then 0 else 1)+(if c=b then 0 else 1):=by
  simp only [Lib.compact,Lib.compactUpTo,List.length_cons,List.length_nil,List.range_succ,List.range_zero,Lib.keeps]
  by_cases h : b=a
  · subst h
    by_cases h2 : c=b <;> simp [h2,Lib.keeps]
  · by_cases h2 : c=b <;> simp [h,h2,Lib.keeps]
structure RG (F : Nat→Prop) (w : World) (f : Frc) (p q : Int) : Prop where
  P : Rd F 1 ienc w f.p.l
  Q : Rd F 1 ienc w f.q.l
  dp : f.p.s=p.sign∧f.p.l.l=digs p.natAbs
  dq : f.q.s=q.sign∧f.q.l.l=digs q.natAbs
  ok : FracOK p q
section
variable {F G : Nat→Prop} {w w' : World} {f : Frc} {p q : Int}
theorem RG.keep (h : RG F w f p q) (hk : ∀ b,F b→w'.heap[b]? = w.heap[b]?) : RG F w' f p q:=⟨h.P.keep hk,h.Q.keep hk,h.dp,h.dq,h.ok⟩
theorem RG.mono (h : RG F w f p q) (hFG : ∀ b,F b→G b) : RG G w f p q:=⟨h.P.mono hFG,h.Q.mono hFG,h.dp,h.dq,h.ok⟩
theorem RG.rf (h : RG F w f p q) (hF : ∀ b,F b→b<w.heap.size) : RF w f p q :=
 ⟨⟨h.P.mono hF,h.dp.1,h.dp.2,h.ok.fp⟩,⟨h.Q.mono hF,h.dq.1,h.dq.2,h.ok.fq⟩,h.ok⟩
theorem RG.nw {n m : Nat} (h : RG (Nw n w) w f p q) (hn : m≤n) (hb : Below w.heap.size w w') : RG (Nw m w') w' f p q :=
 (h.keep fun b hb'=>hb.block b hb'.2).mono fun _ hb'=>hb'.mono hn hb.size
theorem RG.sign (h : RG F w f p q) : (f.p.s=0)↔p=0:=by rw [h.dp.1,Int.sign_eq_zero_iff_zero]
end
theorem RG.st4 {w : World} {f : Frc} {p q : Int} {k n g : Nat} {x y z v : Value} (h : RG (Nw n w) w f p q) (h1 : ∀ b,n≤b→b≠g) (hm : k≤n) : RG (Nw k ((((w.setCell ⟨g,0,none⟩ x).setCell ⟨g,1,none⟩ y).setCell ⟨g,2,none⟩ z).setCell ⟨g,3,none⟩ v)) ((((w.setCell ⟨g,0,none⟩ x).setCell ⟨g,1,none⟩ y).setCell ⟨g,2,none⟩ z).setCell ⟨g,3,none⟩ v) f p q :=
 ⟨rd_st4 h.P h1 hm,rd_st4 h.Q h1 hm,h.dp,h.dq,h.ok⟩
def ErrV (en : Int) : Ending:=.panicked [{ v:=.iface 31 (.int .i64 en),recovered:=false }]
def EvR (w w' : World) (r : FrR) (e : Ending) : Prop:=r.e=0∧(∃ f : Frc,e = .returned f.v∧RG (Nw w.heap.size w') w' f r.p r.q)∨r.e≠0∧e=ErrV r.e
def EvP (w w' : World) (r : FrR) (e : Ending) : Prop:=EvR w w' r e∧Below w.heap.size w w'
theorem FrP.yes {w w' : World} {r : FrR} {e : Ending} (h : FrP w w' r e) (h0 : r.e=0) (hok : FracOK r.p r.q) : ∃ f : Frc,e = .returned (.tuple #[f.v,.int .i64 0])∧RG (Nw w.heap.size w') w' f r.p r.q∧Below w.heap.size w w':=by
 obtain ⟨f,he,hy,_,hp,hq,hb⟩:=h;obtain ⟨h1,h2⟩:=hy h0;rw [h0] at he;injection h1 with h11 h12;injection h2 with h21 h22;exact ⟨f,he,⟨hp,hq,⟨h11,h12⟩,⟨h21,h22⟩,hok⟩,hb⟩
theorem FrP.no {w w' : World} {r : FrR} {e : Ending} (h : FrP w w' r e) : ∃ f : Frc,e = .returned (.tuple #[f.v,.int .i64 r.e])∧Below w.heap.size w w':=by
 obtain ⟨f,he,_,_,_,_,hb⟩:=h;exact ⟨f,he,hb⟩
theorem ok_whole {n : Int} (h0 : -9223372036854775808≤n) (h1 : n≤9223372036854775807) : FracOK n 1:=⟨by omega,by simp,fits_i64 h0 h1,fits_one⟩
theorem ev_must_ok (f : Frc) (w : World) : Calls Tryz.prog 145 #[f.v,.int .i64 0] w fun r w'=>r = .returned f.v∧Below w.heap.size w w':=by
 simp only [Frc.v];go_enter Tryz.func145,Tryz.ntmps145;go_wp2_with fail;refine bodyPost_ret (v:=.agg #[.int .i64 f.p.s,.slice f.p.l.A f.p.l.l.length f.p.l.c,.int .i64 f.q.s,.slice f.q.l.A f.q.l.l.length f.q.l.c]) ?_ rfl ⟨rfl,qbl⟩;simp [results,Tryz.results145,go_sem,go_sem]
theorem ev_must_no (f : Frc) (en : Int) (w : World) (h : ¬ en=0) : Calls Tryz.prog 145 #[f.v,.int .i64 en] w fun r w'=>r=ErrV en∧Below w.heap.size w w':=by
 simp only [Frc.v];go_enter Tryz.func145,Tryz.ntmps145;go_wp2_with fail;exact ⟨rfl,rfl,qbl⟩
def GotF (w w' : World) (p q : Int) (e : Ending) : Prop:=∃ f : Frc,e = .returned f.v∧RG (Nw w.heap.size w') w' f p q∧Below w.heap.size w w'
theorem GotF.ev {w w' : World} {p q : Int} {e : Ending} (h : GotF w w' p q e) : EvP w w' ⟨p,q,0⟩ e:=by
 obtain ⟨f,he,hf,hb⟩:=h;exact ⟨.inl ⟨rfl,f,he,hf⟩,hb⟩
theorem GotF.via {w w1 w' : World} {p q : Int} {e : Ending} (h : GotF w1 w' p q e) (hb : Below w.heap.size w w1) : GotF w w' p q e:=by
 obtain ⟨f,he,hf,hb1⟩:=h;exact ⟨f,he,hf.nw hb.size Zz,hb.trans (hb1.mono hb.size)⟩
theorem ev_whole (n : Int) (w : World) (h0 : -9223372036854775808≤n) (h1 : n≤9223372036854775807) : Calls Tryz.prog 124 #[.int .i64 n] w fun e w'=>GotF w w' n 1 e:=by
 go_enter Tryz.func124,Tryz.ntmps124;go_wp2_with fail;refine (frac_whole n _ h0 h1).mono ?_;rintro e w1 hp;obtain ⟨f,rfl,hf,hb1⟩:=hp.yes rfl (ok_whole h0 h1);obtain ⟨B_r,r0,r1,r2,r3,rf,rz⟩:=Zb4 (Zk1 (g:=w.heap.size) (t:=94) (cs:=Zf) hb1);have HF : Hid (RG (Nw (w.heap.size+1) w1) w1 f n 1):=Zh (hf.mono fun b hb=>hb.mono Zs Zl);have HB : Hid (Below w.heap.size w w1):=Zh qbv;clear hf hb1 hp;simp only [Frc.v];go_wp2_with fail;refine (ev_must_ok f _).mono ?_;rintro e w2 ⟨rfl,hb2⟩;clear r0 r1 r2 r3 rf rz;obtain ⟨B_r,r0,r1,r2,r3,rf,rz⟩:=Zb4 (Zks B_r hb2);have HF2 : Hid (RG (Nw (w.heap.size+1) w2) w2 f n 1):=Zh (HF.out.nw Zl hb2);have HB2:=Zt HB hb2;clear hb2 HF HB;simp only [Frc.v];go_wp2_with fail;(have hne : ∀ b,w.heap.size+1≤b→b≠w.heap.size:=fun b hb=>by omega);refine bodyPost_ret (v:=.agg #[.int .i64 f.p.s,.slice f.p.l.A f.p.l.l.length f.p.l.c,.int .i64 f.q.s,.slice f.q.l.A f.q.l.l.length f.q.l.c]) ?_ rfl ⟨f,rfl,HF2.out.st4 hne Zo,below_st4 HB2.out⟩;simp [results,Tryz.results124,go_sem,r0,r1,r2,r3]
theorem ev_truth_true (w : World) : Calls Tryz.prog 127 #[.bool true] w fun e w'=>GotF w w' 1 1 e:=by
 go_enter Tryz.func127,Tryz.ntmps127;go_wp2_with fail;refine (ev_whole 1 _ Zo Zo).mono ?_;rintro e w1 ⟨f,rfl,hf,hb1⟩;obtain ⟨B_r,r0,r1,r2,r3,rf,rz⟩:=Zb4 (Zk1 (g:=w.heap.size) (t:=94) (cs:=Zf) hb1);have HF : Hid (RG (Nw (w.heap.size+1) w1) w1 f 1 1):=Zh (hf.mono fun b hb=>hb.mono Zs Zl);have HB : Hid (Below w.heap.size w w1):=Zh qbv;clear hf hb1;simp only [Frc.v];go_wp2_with fail;(have hne : ∀ b,w.heap.size+1≤b→b≠w.heap.size:=fun b hb=>by omega);refine bodyPost_ret (v:=.agg #[.int .i64 f.p.s,.slice f.p.l.A f.p.l.l.length f.p.l.c,.int .i64 f.q.s,.slice f.q.l.A f.q.l.l.length f.q.l.c]) ?_ rfl ⟨f,rfl,HF.out.st4 hne Zo,below_st4 HB.out⟩;simp [results,Tryz.results127,go_sem,r0,r1,r2,r3]
theorem ev_truth_false (w : World) : Calls Tryz.prog 127 #[.bool false] w fun e w'=>GotF w w' 0 1 e:=by
 go_enter Tryz.func127,Tryz.ntmps127;go_wp2_with fail;refine (ev_whole 0 _ Zo Zo).mono ?_;rintro e w1 ⟨f,rfl,hf,hb1⟩;obtain ⟨B_r,r0,r1,r2,r3,rf,rz⟩:=Zb4 (Zk1 (g:=w.heap.size) (t:=94) (cs:=Zf) hb1);have HF : Hid (RG (Nw (w.heap.size+1) w1) w1 f 0 1):=Zh (hf.mono fun b hb=>hb.mono Zs Zl);have HB : Hid (Below w.heap.size w w1):=Zh qbv;clear hf hb1;simp only [Frc.v];go_wp2_with fail;(have hne : ∀ b,w.heap.size+1≤b→b≠w.heap.size:=fun b hb=>by omega);refine bodyPost_ret (v:=.agg #[.int .i64 f.p.s,.slice f.p.l.A f.p.l.l.length f.p.l.c,.int .i64 f.q.s,.slice f.q.l.A f.q.l.l.length f.q.l.c]) ?_ rfl ⟨f,rfl,HF.out.st4 hne Zo,below_st4 HB.out⟩;simp [results,Tryz.results127,go_sem,r0,r1,r2,r3]
theorem ev_truth (b : Bool) (w : World) : Calls Tryz.prog 127 #[.bool b] w fun e w'=>GotF w w' (truF b).p (truF b).q e:=by
 cases b
 ·exact ev_truth_false w
 ·exact ev_truth_true w
theorem FT.at_ {F : Nat→Prop} {w : World} {l : Sl FT} (h : Rd F 2 FT.enc w l) {j : Nat} {x : FT} (hx : l.l[j]? = some x) : ∃ b o,l.A=some ⟨b,o,none⟩∧F b∧w.cell? ⟨b,o+j * 2,none⟩=some (.string x.nm)∧w.cell? ⟨b,o+j * 2+1,none⟩=some (.int .i64 x.v):=by
 obtain ⟨b,o,hA,hF,hc⟩:=h.2.2.2 j x hx;exact ⟨b,o,hA,hF,hc.c2⟩
theorem ev_fact (l : Sl FT) (s : ByteArray) (w : World) (hl : FactsAt (· < w.heap.size) w l) (hv : ∀ x,x ∈ l.l→-9223372036854775808≤x.v∧x.v≤9223372036854775807) : Calls Tryz.prog 126 #[.slice l.A l.l.length l.c,.string s] w fun e w'=>EvP w w' (factF s l.l) e:=by
 have hln:=hl.rd.len;have HL:=Zh hl;have HV:=Zh hv;clear hl hv;go_enter Tryz.func126,Tryz.ntmps126;go_wp2_with fail;have HB : Hid (Below w.heap.size w ((w.alloc (.cells #[.string s] 9)).alloc (.cells Zf 94))):=Zh qbl;have HC : Hid (Blk ((w.alloc (.cells #[.string s] 9)).alloc (.cells Zf 94)) w.heap.size 9 #[.string s]):=Zh ((Blk.new _ _ _).alloc _);have HD : Hid (Blk ((w.alloc (.cells #[.string s] 9)).alloc (.cells Zf 94)) (w.heap.size+1) 94 Zf):=Zh (Blk.new' Zs);generalize (w.alloc (.cells #[.string s] 9)).alloc (.cells Zf 94)=w2 at *;have hcon:=idxF_fa l (fun x=>sameB x.nm s) w.heap.size w2 (HL.out.later HB.out).rd (fun W x _ hW=>ev_fact1 x s _ W (HC.out.later hW).b1.1 (HC.out.later hW).lt);rcases idxP_ge (fun x : FT=>sameB x.nm s) l.l 0 with ⟨h1,h2⟩ | ⟨j,x,h1,h2,h3,h4⟩
 ·rw [h1] at hcon;have HF:=Zh (factF_none h2);clear h1 h2;refine hcon.mono ?_;clear hcon;rintro e w3 ⟨rfl,hb3⟩;have hB : Below w.heap.size w w3:=HB.out.trans (hb3.mono HB.out.size);clear hb3;go_wp2_with fail;exact ⟨rfl,by rw [HF.out]; exact ⟨.inr ⟨by decide,rfl⟩,hB⟩⟩
 ·have hj : j<l.l.length:=(List.getElem?_eq_some_iff.1 h2).1;rw [h1,Nat.zero_add] at hcon;have HF:=Zh (factF_at h2 h3 h4);have HX:=Zh (HV.out x (List.mem_of_getElem? h2));have H2:=Zh h2;clear h1 h2 h3 h4;refine hcon.mono ?_;clear hcon;rintro e w3 ⟨rfl,hb3⟩;have hB : Below w.heap.size w w3:=HB.out.trans (hb3.mono HB.out.size);have HB3:=Zh hB;obtain ⟨b,o,hA,_,c0,c1⟩:=FT.at_ (HL.out.later hB).rd H2.out;have hD3:=Zh (HD.out.later hb3);have hz3 : w.heap.size+1<w3.heap.size:=hD3.out.lt;clear hb3 hB;rw [hA];go_wp2_with fail;refine (ev_whole x.v _ HX.out.1 HX.out.2).mono ?_;rintro e w4 ⟨f,rfl,hf,hb4⟩;obtain ⟨r0,r1,r2,r3,rf,rz⟩:=(hD3.out.later hb4).b4;have HFF:=Zh hf;have HB4:=Zt HB3 hb4;clear hf hb4;simp only [Frc.v];go_wp2_with fail;have hne : ∀ b,w3.heap.size≤b→b≠w.heap.size+1:=fun b hb=>by omega
  have hok : EvR w ((((w4.setCell ⟨w.heap.size+1,0,none⟩ (.int .i64 f.p.s)).setCell ⟨w.heap.size+1,1,none⟩ (.slice f.p.l.A f.p.l.l.length f.p.l.c)).setCell ⟨w.heap.size+1,2,none⟩ (.int .i64 f.q.s)).setCell ⟨w.heap.size+1,3,none⟩ (.slice f.q.l.A f.q.l.l.length f.q.l.c)) (factF s l.l) (.returned f.v):=by
   rw [HF.out];exact .inl ⟨rfl,f,rfl,HFF.out.st4 hne Zo⟩
  refine bodyPost_ret (v:=.agg #[.int .i64 f.p.s,.slice f.p.l.A f.p.l.l.length f.p.l.c,.int .i64 f.q.s,.slice f.q.l.A f.q.l.l.length f.q.l.c]) ?_ rfl ⟨hok,below_st4 HB4.out⟩;simp [results,Tryz.results126,go_sem,r0,r1,r2,r3]
end Go.Proofs.YtmomlipmpgcheaaGreatDoor
