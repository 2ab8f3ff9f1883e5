/- Facts in memory; walks: eval.right, the closures that look at facts. -/
import Derived.Test.YtpbdjpfbhicmdaaGreatDoorCbxar
import Derived.Test.YtpbdjpfbhicmdaaGreatDoorCbxah
import Derived.Test.YtpbdjpfbhicmdaaGreatDoorCbxaq
set_option linter.unusedSimpArgs false
set_option linter.unusedVariables false
set_option maxRecDepth 100000
set_option maxHeartbeats 6400000
namespace Go.Proofs.YtpbdjpfbhicmdaaGreatDoor
open Go.RowKit
def FT.enc (x : FT) : List Value:=[.string x.nm,.int .i64 x.v]
theorem FT.enc_k (x : FT) : x.enc.length=2:=rfl
theorem FT.enc_one (x : FT) : ∀ u ∈ x.enc,u.oneCell'=true:=by
 intro v hv;simp only [FT.enc,List.mem_cons,List.not_mem_nil,or_false] at hv;rcases hv with rfl | rfl <;> rfl
def FT.v_ : FT→Value | ⟨nm,n⟩=>.agg #[.string nm,.int .i64 n]
structure FactsAt (F : Nat→Prop) (w : World) (s : Sl FT) : Prop where
  rd : Rd F 2 FT.enc w s
  all : ∀ x,x ∈ s.l→x.nm.size≤9223372036854775807
theorem FactsAt.keep {F G : Nat→Prop} {w w' : World} {s : Sl FT} (h : FactsAt F w s) (hk : ∀ b,F b→w'.heap[b]? = w.heap[b]?) (hFG : ∀ b,F b→G b) : FactsAt G w' s:=⟨(h.rd.keep hk).mono hFG,h.all⟩
theorem FactsAt.later {w w' : World} {s : Sl FT} (h : FactsAt (· < w.heap.size) w s) (hb : Below w.heap.size w w') : FactsAt (· < w'.heap.size) w' s :=
 h.keep (fun b hb'=>hb.block b hb') (fun b hb'=>Nat.lt_of_lt_of_le hb' hb.size)
def okF (f : FT) : Bool:=nameB f.nm && (decide (-1000000000000000≤f.v) && decide (f.v≤1000000000000000))
theorem idxF_rt (l : Sl FT) (p : FT→Bool) (g : Nat) (w : World) (hr : Rd (· < w.heap.size) 2 FT.enc w l) (hp : ∀ W x,x ∈ l.l→Below w.heap.size w W→Calls Tryz.prog 145 (#[x.v_] ++ #[]) W fun e w'=>e = .returned (.bool (p x))∧Below W.heap.size W w') : Calls Tryz.prog 193 #[.slice l.A l.l.length l.c,.func (.func 145) #[] #[]] w fun e w'=>e = .returned (.int .i64 (idxP p 0 l.l))∧Below w.heap.size w w':=by
 obtain ⟨A,c,l⟩:=l;have hn:=hr.len;simp only at hn;have HR:=Zh hr;clear hr;simp only;simp only at hp;go_enter Tryz.func193,Tryz.ntmps193;go_wp2_with fail;go_loopw [5,8] (fun u i wr=>∃ (k : Nat),k≤l.length∧i = .int .i64 k∧Below w.heap.size w wr∧Hid (idxP p 0 l=idxP p k (l.drop k))) (fun _ i _=>l.length - (intOf i).toNat)
 case atStart=>exact ⟨0,by omega,rfl,qbl,Zh Zs⟩
 case round =>
  obtain ⟨k,hk,rfl,hbel,HG⟩:=hrel;have hhe : w.heap.size≤wr.heap.size:=hbel.size;by_cases hlt : k<l.length
  ·obtain ⟨b,o,rfl,hb,hcl⟩:=HR.out.at1 hlt;have hcl2:=hcl.keep (hbel.block b hb);have hd : l.drop k=l[k] :: l.drop (k+1):=List.drop_eq_getElem_cons hlt;have hgo:=HG.out;rw [hd] at hgo;have HGO:=Zh hgo;have hcall:=hp wr l[k] (List.getElem_mem hlt) hbel;clear hd hgo hcl HG hp;generalize l[k]=x at *;obtain ⟨bq,hb0⟩ : ∃ bq,p x=bq:=⟨_,rfl⟩;rw [hb0] at hcall;have HB0:=Zh hb0;clear hb0;obtain ⟨xn,xv⟩:=x;have gg:=hcl2.c2;obtain ⟨g0,g1⟩:=gg;simp only [FT.v_] at hcall;clear hcl2;rcases bq
   ·go_wp2_with fail;refine hcall.mono ?_;clear hcall;rintro e w1 ⟨rfl,hb1⟩;have hB1 : Below w.heap.size w w1:=qbv;clear hb1;go_wp2_with fail;go_roundw
    case rel=>exact ⟨k+1,by omega,by go_num,hB1,Zh (by rw [HGO.out,idxP,HB0.out]; rfl)⟩
    case measure=>simp [intOf]; omega
   ·go_wp2_with fail;refine hcall.mono ?_;clear hcall;rintro e w1 ⟨rfl,hb1⟩;have hB1 : Below w.heap.size w w1:=qbv;clear hb1;go_wp2_with fail;go_ret;exact ⟨ret_int (by rw [HGO.out,idxP,HB0.out]; rfl),hB1⟩
  ·have hkl : l.drop k=[]:=List.drop_eq_nil_of_le Zo;have hgo:=HG.out;rw [hkl] at hgo;have HGO:=Zh hgo;clear hkl hgo HG;go_wp2_with fail;go_ret;exact ⟨ret_int (by rw [HGO.out]; rfl),hbel⟩
theorem idxF_fa (l : Sl FT) (p : FT→Bool) (g : Nat) (w : World) (hr : Rd (· < w.heap.size) 2 FT.enc w l) (hp : ∀ W x,x ∈ l.l→Below w.heap.size w W→Calls Tryz.prog 195 (#[x.v_] ++ #[.pointer (some ⟨g,0,none⟩)]) W fun e w'=>e = .returned (.bool (p x))∧Below W.heap.size W w') : Calls Tryz.prog 193 #[.slice l.A l.l.length l.c,.func (.func 195) #[] #[.pointer (some ⟨g,0,none⟩)]] w fun e w'=>e = .returned (.int .i64 (idxP p 0 l.l))∧Below w.heap.size w w':=by
 obtain ⟨A,c,l⟩:=l;have hn:=hr.len;simp only at hn;have HR:=Zh hr;clear hr;simp only;simp only at hp;go_enter Tryz.func193,Tryz.ntmps193;go_wp2_with fail;go_loopw [5,8] (fun u i wr=>∃ (k : Nat),k≤l.length∧i = .int .i64 k∧Below w.heap.size w wr∧Hid (idxP p 0 l=idxP p k (l.drop k))) (fun _ i _=>l.length - (intOf i).toNat)
 case atStart=>exact ⟨0,by omega,rfl,qbl,Zh Zs⟩
 case round =>
  obtain ⟨k,hk,rfl,hbel,HG⟩:=hrel;have hhe : w.heap.size≤wr.heap.size:=hbel.size;by_cases hlt : k<l.length
  ·obtain ⟨b,o,rfl,hb,hcl⟩:=HR.out.at1 hlt;have hcl2:=hcl.keep (hbel.block b hb);have hd : l.drop k=l[k] :: l.drop (k+1):=List.drop_eq_getElem_cons hlt;have hgo:=HG.out;rw [hd] at hgo;have HGO:=Zh hgo;have hcall:=hp wr l[k] (List.getElem_mem hlt) hbel;clear hd hgo hcl HG hp;generalize l[k]=x at *;obtain ⟨bq,hb0⟩ : ∃ bq,p x=bq:=⟨_,rfl⟩;rw [hb0] at hcall;have HB0:=Zh hb0;clear hb0;obtain ⟨xn,xv⟩:=x;have gg:=hcl2.c2;obtain ⟨g0,g1⟩:=gg;simp only [FT.v_] at hcall;clear hcl2;rcases bq
   ·go_wp2_with fail;refine hcall.mono ?_;clear hcall;rintro e w1 ⟨rfl,hb1⟩;have hB1 : Below w.heap.size w w1:=qbv;clear hb1;go_wp2_with fail;go_roundw
    case rel=>exact ⟨k+1,by omega,by go_num,hB1,Zh (by rw [HGO.out,idxP,HB0.out]; rfl)⟩
    case measure=>simp [intOf]; omega
   ·go_wp2_with fail;refine hcall.mono ?_;clear hcall;rintro e w1 ⟨rfl,hb1⟩;have hB1 : Below w.heap.size w w1:=qbv;clear hb1;go_wp2_with fail;go_ret;exact ⟨ret_int (by rw [HGO.out,idxP,HB0.out]; rfl),hB1⟩
  ·have hkl : l.drop k=[]:=List.drop_eq_nil_of_le Zo;have hgo:=HG.out;rw [hkl] at hgo;have HGO:=Zh hgo;clear hkl hgo HG;go_wp2_with fail;go_ret;exact ⟨ret_int (by rw [HGO.out]; rfl),hbel⟩
theorem hasF_rt (l : Sl FT) (p : FT→Bool) (g : Nat) (w : World) (hr : Rd (· < w.heap.size) 2 FT.enc w l) (hp : ∀ W x,x ∈ l.l→Below w.heap.size w W→Calls Tryz.prog 145 (#[x.v_] ++ #[]) W fun e w'=>e = .returned (.bool (p x))∧Below W.heap.size W w') : Calls Tryz.prog 144 #[.slice l.A l.l.length l.c,.func (.func 145) #[] #[]] w fun e w'=>e = .returned (.bool (l.l.any p))∧Below w.heap.size w w':=by
 have hcon:=idxF_rt l p g w hr hp;clear hp hr;rcases idxP_ge p l.l 0 with ⟨h1,h2⟩ | ⟨j,x,h1,h2,h3,h4⟩
 ·rw [h1] at hcon;have HV:=Zh (show false=l.l.any p from (List.any_eq_false.2 (fun x hx=>by simpa using h2 x hx)).symm);clear h1 h2;go_enter Tryz.func144,Tryz.ntmps144;go_wp2_with fail;refine hcon.mono ?_;clear hcon;rintro e w1 ⟨rfl,hb1⟩;go_wp2_with fail;go_ret;exact ⟨ret_bool HV.out,hb1⟩
 ·rw [h1] at hcon;have HV:=Zh (show true=l.l.any p from (List.any_eq_true.2 ⟨x,List.mem_of_getElem? h2,h3⟩).symm);clear h1 h2 h3 h4;go_enter Tryz.func144,Tryz.ntmps144;go_wp2_with fail;refine hcon.mono ?_;clear hcon;rintro e w1 ⟨rfl,hb1⟩;go_wp2_with fail;go_ret;exact ⟨ret_bool HV.out,hb1⟩
theorem ev_fact1 (x : FT) (s : ByteArray) (g : Nat) (w : World) (hg : w.cell? ⟨g,0,none⟩=some (.string s)) (hgl : g<w.heap.size) : Calls Tryz.prog 195 #[x.v_,.pointer (some ⟨g,0,none⟩)] w fun r w'=>r = .returned (.bool (sameB x.nm s))∧Below w.heap.size w w':=by
 obtain ⟨xn,xv⟩:=x;(have hne : g≠w.heap.size:=by omega);simp only [FT.v_];go_enter Tryz.func195,Tryz.ntmps195;go_wp2_with fail;go_ret;exact ⟨rfl,qbl⟩
theorem ev_let1 (x : LT) (s : ByteArray) (g : Nat) (w : World) (hg : w.cell? ⟨g,0,none⟩=some (.string s)) (hgl : g<w.heap.size) : Calls Tryz.prog 194 #[x.v,.pointer (some ⟨g,0,none⟩)] w fun r w'=>r = .returned (.bool (sameB x.nm s))∧Below w.heap.size w w':=by
 obtain ⟨xn,xo,xm,xu,xs,xA,xc,xl⟩:=x;(have hne : g≠w.heap.size:=by omega);simp only [LT.v];go_enter Tryz.func194,Tryz.ntmps194;go_wp2_with fail;go_ret;exact ⟨rfl,qbl⟩
theorem okF_no {x : FT} (h : nameB x.nm=false) : (!okF x)=true:=by unfold okF; rw [h]; rfl
theorem okF_lt {x : FT} (h : x.v < -1000000000000000) : (!okF x)=true:=by unfold okF; rw [decide_eq_false (by omega : ¬ -1000000000000000≤x.v)]; simp
theorem okF_gt {x : FT} (h : 1000000000000000<x.v) : (!okF x)=true:=by unfold okF; rw [decide_eq_false (by omega : ¬ x.v≤1000000000000000)]; simp
theorem okF_yes {x : FT} (h : nameB x.nm=true) (h1 : -1000000000000000≤x.v) (h2 : x.v≤1000000000000000) : (!okF x)=false:=by unfold okF; rw [h,decide_eq_true h1,decide_eq_true h2]; rfl
theorem ev_right1 (x : FT) (w : World) (hx : x.nm.size≤9223372036854775807) : Calls Tryz.prog 145 #[x.v_] w fun r w'=>r = .returned (.bool (!okF x))∧Below w.heap.size w w':=by
 obtain ⟨V,hV⟩ : ∃ V,(!okF x)=V:=⟨_,rfl⟩;have H1:=Zh (okF_no (x:=x));have H2:=Zh (okF_lt (x:=x));have H3:=Zh (okF_gt (x:=x));have H4:=Zh (okF_yes (x:=x));rw [hV] at H1 H2 H3 H4 ⊢;clear hV;obtain ⟨xn,xv⟩:=x;simp only at hx H1 H2 H3 H4;have HN:=Zh (fun w2=>syn_name xn w2 hx);clear hx;simp only [FT.v_];go_enter Tryz.func145,Tryz.ntmps145;go_wp2_with fail;refine (HN.out _).mono ?_;rintro e w' ⟨rfl,hb⟩;have f0 : w'.cell? ⟨w.heap.size,1,none⟩=some (.int .i64 xv):=((Blk.new w _ _).later hb).cell 1;have hB : Below w.heap.size w w':=Below.trans qbl (hb.mono Zp);clear hb HN;rcases hn : nameB xn
 ·have HF:=Zh (H1.out hn);go_wp2_with fail;go_ret;exact ⟨ret_bool HF.out.symm,hB⟩
 ·by_cases h1 : xv < -1000000000000000
  ·have HF:=Zh (H2.out h1);go_wp2_with fail;go_ret;exact ⟨ret_bool HF.out.symm,hB⟩
  by_cases h2 : 1000000000000000<xv
  ·have HF:=Zh (H3.out h2);go_wp2_with fail;go_ret;exact ⟨ret_bool HF.out.symm,hB⟩
  have HF:=Zh (H4.out hn Zo Zo);go_wp2_with fail;go_ret;exact ⟨ret_bool (by rw [HF.out]; simp; omega),hB⟩
theorem factsB_is (l : List FT) : factsB l=(decide ((l.length : Int)≤40) && l.all okF):=rfl
theorem ev_right (l : Sl FT) (w : World) (hl : FactsAt (· < w.heap.size) w l) : Calls Tryz.prog 100 #[.slice l.A l.l.length l.c] w fun r w'=>r = .returned (.bool (factsB l.l))∧Below w.heap.size w w':=by
 have hn:=hl.rd.len;have HC:=Zh (hasF_rt l (fun x=>!okF x) 0 w hl.rd (fun W x hx hW=>ev_right1 x W (hl.all x hx)));have HA:=Zh (any_not okF l.l);have HI:=Zh (factsB_is l.l);clear hl;obtain ⟨V,hV⟩ : ∃ V,factsB l.l=V:=⟨_,rfl⟩;rw [hV] at HI ⊢;clear hV;obtain ⟨r,hr⟩ : ∃ r,l.l.any (fun x=>!okF x)=r:=⟨_,rfl⟩;rw [show (fun x=>!okF x)=(fun x=>!(okF) x) from rfl] at HC;rw [hr] at HA HC;clear hr;by_cases h40 : (l.l.length : Int)≤40
 ·have HF : Hid ((!r)=V):=Zh (by rw [HI.out,decide_eq_true h40,← HA.out]; simp);go_enter Tryz.func100,Tryz.ntmps100;go_wp2_with fail;refine HC.out.mono ?_;rintro e w' ⟨rfl,hb⟩;go_wp2_with fail;go_ret;exact ⟨ret_bool HF.out,hb⟩
 ·have HF : Hid (false=V):=Zh (by rw [HI.out,decide_eq_false h40]; rfl);go_enter Tryz.func100,Tryz.ntmps100;go_wp2_with fail;go_ret;exact ⟨ret_bool HF.out,Below.refl _ _⟩
structure RG (F : Nat→Prop) (w : World) (f : Frc) (p q : Int) : Prop where
  P : Rd F 1 ienc w f.p.l
  Q : Rd F 1 ienc w f.q.l
  dp : f.p.s=p.sign∧f.p.l.l=digs p.natAbs
  dq : f.q.s=q.sign∧f.q.l.l=digs q.natAbs
  ok : FracOK p q
section
variable {F G : Nat→Prop} {w w' : World} {f : Frc} {p q : Int}
theorem RG.keep (h : RG F w f p q) (hk : ∀ b,F b→w'.heap[b]? = w.heap[b]?) : RG F w' f p q:=⟨h.P.keep hk,h.Q.keep hk,h.dp,h.dq,h.ok⟩
theorem RG.mono (h : RG F w f p q) (hFG : ∀ b,F b→G b) : RG G w f p q:=⟨h.P.mono hFG,h.Q.mono hFG,h.dp,h.dq,h.ok⟩
theorem RG.rf (h : RG F w f p q) (hF : ∀ b,F b→b<w.heap.size) : RF w f p q :=
 ⟨⟨h.P.mono hF,h.dp.1,h.dp.2,h.ok.fp⟩,⟨h.Q.mono hF,h.dq.1,h.dq.2,h.ok.fq⟩,h.ok⟩
theorem RG.nw {n m : Nat} (h : RG (Nw n w) w f p q) (hn : m≤n) (hb : Below w.heap.size w w') : RG (Nw m w') w' f p q :=
 (h.keep fun b hb'=>hb.block b hb'.2).mono fun _ hb'=>hb'.mono hn hb.size
theorem RG.sign (h : RG F w f p q) : (f.p.s=0)↔p=0:=by rw [h.dp.1,Int.sign_eq_zero_iff_zero]
end
theorem RG.st4 {w : World} {f : Frc} {p q : Int} {k n g : Nat} {x y z v : Value} (h : RG (Nw n w) w f p q) (h1 : ∀ b,n≤b→b≠g) (hm : k≤n) : RG (Nw k ((((w.setCell ⟨g,0,none⟩ x).setCell ⟨g,1,none⟩ y).setCell ⟨g,2,none⟩ z).setCell ⟨g,3,none⟩ v)) ((((w.setCell ⟨g,0,none⟩ x).setCell ⟨g,1,none⟩ y).setCell ⟨g,2,none⟩ z).setCell ⟨g,3,none⟩ v) f p q :=
 ⟨rd_st4 h.P h1 hm,rd_st4 h.Q h1 hm,h.dp,h.dq,h.ok⟩
def ErrV (en : Int) : Ending:=.panicked [{ v:=.iface 33 (.int .i64 en),recovered:=false }]
def EvR (w w' : World) (r : FrR) (e : Ending) : Prop:=r.e=0∧(∃ f : Frc,e = .returned f.v∧RG (Nw w.heap.size w') w' f r.p r.q)∨r.e≠0∧e=ErrV r.e
def EvP (w w' : World) (r : FrR) (e : Ending) : Prop:=EvR w w' r e∧Below w.heap.size w w'
theorem FrP.yes {w w' : World} {r : FrR} {e : Ending} (h : FrP w w' r e) (h0 : r.e=0) (hok : FracOK r.p r.q) : ∃ f : Frc,e = .returned (.tuple #[f.v,.int .i64 0])∧RG (Nw w.heap.size w') w' f r.p r.q∧Below w.heap.size w w':=by
 obtain ⟨f,he,hy,_,hp,hq,hb⟩:=h;obtain ⟨h1,h2⟩:=hy h0;rw [h0] at he;injection h1 with h11 h12;injection h2 with h21 h22;exact ⟨f,he,⟨hp,hq,⟨h11,h12⟩,⟨h21,h22⟩,hok⟩,hb⟩
theorem FrP.no {w w' : World} {r : FrR} {e : Ending} (h : FrP w w' r e) : ∃ f : Frc,e = .returned (.tuple #[f.v,.int .i64 r.e])∧Below w.heap.size w w':=by
 obtain ⟨f,he,_,_,_,_,hb⟩:=h;exact ⟨f,he,hb⟩
theorem ok_whole {n : Int} (h0 : -9223372036854775808≤n) (h1 : n≤9223372036854775807) : FracOK n 1:=⟨by omega,by simp,fits_i64 h0 h1,fits_one⟩
theorem ev_must_ok (f : Frc) (w : World) : Calls Tryz.prog 154 #[f.v,.int .i64 0] w fun r w'=>r = .returned f.v∧Below w.heap.size w w':=by
 simp only [Frc.v];go_enter Tryz.func154,Tryz.ntmps154;go_wp2_with fail;refine bodyPost_ret (v:=.agg #[.int .i64 f.p.s,.slice f.p.l.A f.p.l.l.length f.p.l.c,.int .i64 f.q.s,.slice f.q.l.A f.q.l.l.length f.q.l.c]) ?_ rfl ⟨rfl,qbl⟩;simp [results,Tryz.results154,go_sem,go_sem]
theorem ev_must_no (f : Frc) (en : Int) (w : World) (h : ¬ en=0) : Calls Tryz.prog 154 #[f.v,.int .i64 en] w fun r w'=>r=ErrV en∧Below w.heap.size w w':=by
 simp only [Frc.v];go_enter Tryz.func154,Tryz.ntmps154;go_wp2_with fail;exact ⟨rfl,rfl,qbl⟩
def GotF (w w' : World) (p q : Int) (e : Ending) : Prop:=∃ f : Frc,e = .returned f.v∧RG (Nw w.heap.size w') w' f p q∧Below w.heap.size w w'
theorem GotF.ev {w w' : World} {p q : Int} {e : Ending} (h : GotF w w' p q e) : EvP w w' ⟨p,q,0⟩ e:=by
 obtain ⟨f,he,hf,hb⟩:=h;exact ⟨.inl ⟨rfl,f,he,hf⟩,hb⟩
theorem GotF.via {w w1 w' : World} {p q : Int} {e : Ending} (h : GotF w1 w' p q e) (hb : Below w.heap.size w w1) : GotF w w' p q e:=by
 obtain ⟨f,he,hf,hb1⟩:=h;exact ⟨f,he,hf.nw hb.size Zz,hb.trans (hb1.mono hb.size)⟩
theorem ev_whole (n : Int) (w : World) (h0 : -9223372036854775808≤n) (h1 : n≤9223372036854775807) : Calls Tryz.prog 104 #[.int .i64 n] w fun e w'=>GotF w w' n 1 e:=by
 go_enter Tryz.func104,Tryz.ntmps104;go_wp2_with fail;refine (frac_whole n _ h0 h1).mono ?_;rintro e w1 hp;obtain ⟨f,rfl,hf,hb1⟩:=hp.yes rfl (ok_whole h0 h1);obtain ⟨B_r,r0,r1,r2,r3,rf,rz⟩:=Zb4 (Zk1 (g:=w.heap.size) (t:=134) (cs:=Zf) hb1);have HF : Hid (RG (Nw (w.heap.size+1) w1) w1 f n 1):=Zh (hf.mono fun b hb=>hb.mono Zs Zl);have HB : Hid (Below w.heap.size w w1):=Zh qbv;clear hf hb1 hp;simp only [Frc.v];go_wp2_with fail;refine (ev_must_ok f _).mono ?_;rintro e w2 ⟨rfl,hb2⟩;clear r0 r1 r2 r3 rf rz;obtain ⟨B_r,r0,r1,r2,r3,rf,rz⟩:=Zb4 (Zks B_r hb2);have HF2 : Hid (RG (Nw (w.heap.size+1) w2) w2 f n 1):=Zh (HF.out.nw Zl hb2);have HB2:=Zt HB hb2;clear hb2 HF HB;simp only [Frc.v];go_wp2_with fail;(have hne : ∀ b,w.heap.size+1≤b→b≠w.heap.size:=fun b hb=>by omega);refine bodyPost_ret (v:=.agg #[.int .i64 f.p.s,.slice f.p.l.A f.p.l.l.length f.p.l.c,.int .i64 f.q.s,.slice f.q.l.A f.q.l.l.length f.q.l.c]) ?_ rfl ⟨f,rfl,HF2.out.st4 hne Zo,below_st4 HB2.out⟩;simp [results,Tryz.results104,go_sem,r0,r1,r2,r3]
theorem ev_truth_true (w : World) : Calls Tryz.prog 148 #[.bool true] w fun e w'=>GotF w w' 1 1 e:=by
 go_enter Tryz.func148,Tryz.ntmps148;go_wp2_with fail;refine (ev_whole 1 _ Zo Zo).mono ?_;rintro e w1 ⟨f,rfl,hf,hb1⟩;obtain ⟨B_r,r0,r1,r2,r3,rf,rz⟩:=Zb4 (Zk1 (g:=w.heap.size) (t:=134) (cs:=Zf) hb1);have HF : Hid (RG (Nw (w.heap.size+1) w1) w1 f 1 1):=Zh (hf.mono fun b hb=>hb.mono Zs Zl);have HB : Hid (Below w.heap.size w w1):=Zh qbv;clear hf hb1;simp only [Frc.v];go_wp2_with fail;(have hne : ∀ b,w.heap.size+1≤b→b≠w.heap.size:=fun b hb=>by omega);refine bodyPost_ret (v:=.agg #[.int .i64 f.p.s,.slice f.p.l.A f.p.l.l.length f.p.l.c,.int .i64 f.q.s,.slice f.q.l.A f.q.l.l.length f.q.l.c]) ?_ rfl ⟨f,rfl,HF.out.st4 hne Zo,below_st4 HB.out⟩;simp [results,Tryz.results148,go_sem,r0,r1,r2,r3]
theorem ev_truth_false (w : World) : Calls Tryz.prog 148 #[.bool false] w fun e w'=>GotF w w' 0 1 e:=by
 go_enter Tryz.func148,Tryz.ntmps148;go_wp2_with fail;refine (ev_whole 0 _ Zo Zo).mono ?_;rintro e w1 ⟨f,rfl,hf,hb1⟩;obtain ⟨B_r,r0,r1,r2,r3,rf,rz⟩:=Zb4 (Zk1 (g:=w.heap.size) (t:=134) (cs:=Zf) hb1);have HF : Hid (RG (Nw (w.heap.size+1) w1) w1 f 0 1):=Zh (hf.mono fun b hb=>hb.mono Zs Zl);have HB : Hid (Below w.heap.size w w1):=Zh qbv;clear hf hb1;simp only [Frc.v];go_wp2_with fail;(have hne : ∀ b,w.heap.size+1≤b→b≠w.heap.size:=fun b hb=>by omega);refine bodyPost_ret (v:=.agg #[.int .i64 f.p.s,.slice f.p.l.A f.p.l.l.length f.p.l.c,.int .i64 f.q.s,.slice f.q.l.A f.q.l.l.length f.q.l.c]) ?_ rfl ⟨f,rfl,HF.out.st4 hne Zo,below_st4 HB.out⟩;simp [results,Tryz.results148,go_sem,r0,r1,r2,r3]
theorem ev_truth (b : Bool) (w : World) : Calls Tryz.prog 148 #[.bool b] w fun e w'=>GotF w w' (truF b).p (truF b).q e:=by
 cases b
 ·exact ev_truth_false w
 ·exact ev_truth_true w
theorem FT.at_ {F : Nat→Prop} {w : World} {l : Sl FT} (h : Rd F 2 FT.enc w l) {j : Nat} {x : FT} (hx : l.l[j]? = some x) : ∃ b o,l.A=some ⟨b,o,none⟩∧F b∧w.cell? ⟨b,o+j * 2,none⟩=some (.string x.nm)∧w.cell? ⟨b,o+j * 2+1,none⟩=some (.int .i64 x.v):=by
 obtain ⟨b,o,hA,hF,hc⟩:=h.2.2.2 j x hx;exact ⟨b,o,hA,hF,hc.c2⟩
theorem ev_fact (l : Sl FT) (s : ByteArray) (w : World) (hl : FactsAt (· < w.heap.size) w l) (hv : ∀ x,x ∈ l.l→-9223372036854775808≤x.v∧x.v≤9223372036854775807) : Calls Tryz.prog 147 #[.slice l.A l.l.length l.c,.string s] w fun e w'=>EvP w w' (factF s l.l) e:=by
 have hln:=hl.rd.len;have HL:=Zh hl;have HV:=Zh hv;clear hl hv;go_enter Tryz.func147,Tryz.ntmps147;go_wp2_with fail;have HB : Hid (Below w.heap.size w ((w.alloc (.cells #[.string s] 9)).alloc (.cells Zf 134))):=Zh qbl;have HC : Hid (Blk ((w.alloc (.cells #[.string s] 9)).alloc (.cells Zf 134)) w.heap.size 9 #[.string s]):=Zh ((Blk.new _ _ _).alloc _);have HD : Hid (Blk ((w.alloc (.cells #[.string s] 9)).alloc (.cells Zf 134)) (w.heap.size+1) 134 Zf):=Zh (Blk.new' Zs);generalize (w.alloc (.cells #[.string s] 9)).alloc (.cells Zf 134)=w2 at *;have hcon:=idxF_fa l (fun x=>sameB x.nm s) w.heap.size w2 (HL.out.later HB.out).rd (fun W x _ hW=>ev_fact1 x s _ W (HC.out.later hW).b1.1 (HC.out.later hW).lt);rcases idxP_ge (fun x : FT=>sameB x.nm s) l.l 0 with ⟨h1,h2⟩ | ⟨j,x,h1,h2,h3,h4⟩
 ·rw [h1] at hcon;have HF:=Zh (factF_none h2);clear h1 h2;refine hcon.mono ?_;clear hcon;rintro e w3 ⟨rfl,hb3⟩;have hB : Below w.heap.size w w3:=HB.out.trans (hb3.mono HB.out.size);clear hb3;go_wp2_with fail;exact ⟨rfl,by rw [HF.out]; exact ⟨.inr ⟨by decide,rfl⟩,hB⟩⟩
 ·have hj : j<l.l.length:=(List.getElem?_eq_some_iff.1 h2).1;rw [h1,Nat.zero_add] at hcon;have HF:=Zh (factF_at h2 h3 h4);have HX:=Zh (HV.out x (List.mem_of_getElem? h2));have H2:=Zh h2;clear h1 h2 h3 h4;refine hcon.mono ?_;clear hcon;rintro e w3 ⟨rfl,hb3⟩;have hB : Below w.heap.size w w3:=HB.out.trans (hb3.mono HB.out.size);have HB3:=Zh hB;obtain ⟨b,o,hA,_,c0,c1⟩:=FT.at_ (HL.out.later hB).rd H2.out;have hD3:=Zh (HD.out.later hb3);have hz3 : w.heap.size+1<w3.heap.size:=hD3.out.lt;clear hb3 hB;rw [hA];go_wp2_with fail;refine (ev_whole x.v _ HX.out.1 HX.out.2).mono ?_;rintro e w4 ⟨f,rfl,hf,hb4⟩;obtain ⟨r0,r1,r2,r3,rf,rz⟩:=(hD3.out.later hb4).b4;have HFF:=Zh hf;have HB4:=Zt HB3 hb4;clear hf hb4;simp only [Frc.v];go_wp2_with fail;have hne : ∀ b,w3.heap.size≤b→b≠w.heap.size+1:=fun b hb=>by omega
  have hok : EvR w ((((w4.setCell ⟨w.heap.size+1,0,none⟩ (.int .i64 f.p.s)).setCell ⟨w.heap.size+1,1,none⟩ (.slice f.p.l.A f.p.l.l.length f.p.l.c)).setCell ⟨w.heap.size+1,2,none⟩ (.int .i64 f.q.s)).setCell ⟨w.heap.size+1,3,none⟩ (.slice f.q.l.A f.q.l.l.length f.q.l.c)) (factF s l.l) (.returned f.v):=by
   rw [HF.out];exact .inl ⟨rfl,f,rfl,HFF.out.st4 hne Zo⟩
  refine bodyPost_ret (v:=.agg #[.int .i64 f.p.s,.slice f.p.l.A f.p.l.l.length f.p.l.c,.int .i64 f.q.s,.slice f.q.l.A f.q.l.l.length f.q.l.c]) ?_ rfl ⟨hok,below_st4 HB4.out⟩;simp [results,Tryz.results147,go_sem,r0,r1,r2,r3]
end Go.Proofs.YtpbdjpfbhicmdaaGreatDoor
