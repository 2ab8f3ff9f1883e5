/- Walks of the parser: check, is, has, want, named, name, unit. -/
import Derived.Test.YtpbdjpfbhicmdaaGreatDoorCbxaz
set_option linter.unusedSimpArgs false
set_option linter.unusedVariables false
set_option maxRecDepth 100000
set_option maxHeartbeats 6400000
namespace Go.Proofs.YtpbdjpfbhicmdaaGreatDoor
open Go.RowKit
theorem grown_st1 {w : World} {m : Nat} (i : Nat) (u : Value) : w.grownBy (w.setCell ⟨m,i,none⟩ u) (some m) :=
 ⟨rfl,rfl,rfl,by simp,fun j _ hr=>Below.heap_setCell w _ u j (fun e=>hr (by rw [e]))⟩
section
variable {g : Nat} {L : Sl TK} {a : Nat} {X : Nat→Prop}
theorem p_check_ok (p : Value) (e : Int) (w : World) : Calls Tryz.prog 57 #[p,.bool true,.int .i64 e] w fun r w'=>r = .returned (.tuple #[])∧w=w':=by
 go_enter Tryz.func57,Tryz.ntmps57;go_wp2_with fail;exact bodyPost_end (results_none rfl _ _ _) rfl ⟨rfl,rfl⟩
theorem p_check_no {x : TK} (hx : L.l[a]? = some x) (e : Int) (w : World) (h : PrS g L a X w) : Calls Tryz.prog 57 #[.pointer (some ⟨g,0,none⟩),.bool false,.int .i64 e] w fun r w'=>r=StopV x.p e∧Below w.heap.size w w':=by
 have hc:=p_next hx w h;clear h hx;obtain ⟨xk,xt,xn,xp⟩:=x;simp only [TK.v] at hc ⊢;(have hq : ∀ w : World,(Instr.field 115 (Value.agg #[.int .i64 xk,.string xt,.int .i64 xn,.int .i64 xp]) 3).run Tryz.prog w = .ok (.int .i64 xp) w:=fun _=>by kernel_rfl);go_enter Tryz.func57,Tryz.ntmps57;go_wp2_with fail;refine hc.mono ?_;clear hc;rintro r w2 ⟨rfl,hb2⟩;have HB2:=Zh hb2;clear hb2;go_wp2_with fail;exact ⟨rfl,rfl,HB2.out⟩
theorem isT_cons (s : ByteArray) (x : TK) (r : List TK) : isT s (x :: r)=(!decide (x.k=3) && (x.t.toList == s.toList)):=rfl
theorem p_is (s : ByteArray) (w : World) (h : PrS g L a X w) : Calls Tryz.prog 84 #[.pointer (some ⟨g,0,none⟩),.string s] w fun r w'=>r = .returned (.bool (isT s (L.l.drop a)))∧Below w.heap.size w w':=by
 obtain ⟨x,hx⟩ : ∃ x,L.l[a]? = some x:=⟨_,List.getElem?_eq_getElem h.lt⟩;have HC:=Zh (fun W (hW : Below w.heap.size w W)=>p_next hx W (h.later hW));have hi:=isT_cons s x (L.l.drop (a+1));rw [← drop_at hx] at hi;obtain ⟨V,hV⟩ : ∃ V,isT s (L.l.drop a)=V:=⟨_,rfl⟩;rw [hV] at hi ⊢;have HI:=Zh hi;clear h hx hV hi;obtain ⟨xk,xt,xn,xp⟩:=x;simp only [TK.v] at HC HI;(have hq0 : ∀ w : World,(Instr.field 115 (Value.agg #[.int .i64 xk,.string xt,.int .i64 xn,.int .i64 xp]) 0).run Tryz.prog w = .ok (.int .i64 xk) w:=fun _=>by kernel_rfl);(have hq1 : ∀ w : World,(Instr.field 115 (Value.agg #[.int .i64 xk,.string xt,.int .i64 xn,.int .i64 xp]) 1).run Tryz.prog w = .ok (.string xt) w:=fun _=>by kernel_rfl);by_cases h3 : xk=3
 ·have HF : Hid (false=V):=Zh (by rw [HI.out,decide_eq_true h3]; rfl);(have hn : (xk != 3)=false:=by rw [h3]; rfl);clear h3;go_enter Tryz.func84,Tryz.ntmps84;go_wp2_with fail;refine (HC.out _ Zz).mono ?_;rintro r w2 ⟨rfl,hb2⟩;have HB2:=Zh hb2;clear hb2;go_wp2_with fail;go_ret;exact ⟨ret_bool HF.out,HB2.out⟩
 ·have HF : Hid ((xt.toList == s.toList)=V):=Zh (by rw [HI.out,decide_eq_false h3]; simp);have hn : (xk != 3)=true:=bne_iff_ne.2 h3;clear h3;go_enter Tryz.func84,Tryz.ntmps84;go_wp2_with fail;refine (HC.out _ Zz).mono ?_;rintro r w2 ⟨rfl,hb2⟩;have HB2:=Zh hb2;clear hb2;go_wp2_with fail;refine (HC.out _ HB2.out).mono ?_;rintro r w3 ⟨rfl,hb3⟩;have HB3:=Zt HB2 hb3;clear hb3;go_wp2_with fail;go_ret;exact ⟨ret_bool HF.out,HB3.out⟩
def EndT (L : Sl TK) : Prop:=∀ b,L.l[b]?≠none→(∀ x,L.l[b]? = some x→x.k≠3)→b+1<L.l.length
theorem isT_lt {s : ByteArray} (he : EndT L) (ha : a<L.l.length) (h : isT s (L.l.drop a)=true) : a+1<L.l.length:=by
 refine he a (by rw [List.getElem?_eq_getElem ha]; simp) (fun x hx=>?_);rw [drop_at hx,isT_cons] at h;simp only [Bool.and_eq_true,Bool.not_eq_true',decide_eq_false_iff_not] at h;exact h.1
theorem p_has (s : ByteArray) (w : World) (he : EndT L) (hln : L.l.length≤100000) (h : PrS g L a X w) : Calls Tryz.prog 82 #[.pointer (some ⟨g,0,none⟩),.string s] w fun r w'=>r = .returned (.bool (isT s (L.l.drop a)))∧PrS g L (if isT s (L.l.drop a)=true then a+1 else a) X w'∧w.grownBy w' (some g):=by
 have hc:=p_is s w h;have HS:=Zh h;have hlt:=isT_lt (s:=s) he h.lt;obtain ⟨V,hV⟩ : ∃ V,isT s (L.l.drop a)=V:=⟨_,rfl⟩;rw [hV] at hc hlt ⊢;clear h hV;rcases V
 ·clear hlt;go_enter Tryz.func82,Tryz.ntmps82;go_wp2_with fail;refine hc.mono ?_;clear hc;rintro r w2 ⟨rfl,hb2⟩;have HB2:=Zh hb2;clear hb2;go_wp2_with fail;go_ret;exact ⟨rfl,by simpa using HS.out.later HB2.out,below_by HB2.out _⟩
 ·have HLT:=Zh (hlt rfl);clear hlt;go_enter Tryz.func82,Tryz.ntmps82;go_wp2_with fail;refine hc.mono ?_;clear hc;rintro r w2 ⟨rfl,hb2⟩;have HB2:=Zh hb2;have HS2:=Zh (HS.out.later hb2);have hal : a<100000:=Nat.lt_of_lt_of_le HS.out.lt hln;clear hb2;obtain ⟨b0,b1,bf,bz⟩:=HS2.out.blk.b2;(have hwr : IntKind.i64.wrap ((a : Int)+1)=((a+1 : Nat) : Int):=by rw [IntKind.wrap_i64]; omega);go_wp2_with fail;go_ret;exact ⟨rfl,by simpa using HS2.out.move HLT.out,grown_trans (below_by HB2.out _) (grown_st1 1 _)⟩
end
def PxP {α : Type} (g : Nat) (L : Sl TK) (lo : Nat) (X : Nat→Prop) (w w' : World) (r : Ending) (x : PX α) (K : α→Prop) : Prop :=
  w.grownBy w' (some g)∧match x with
  | .ok v l=>(∃ b,lo≤b∧l=L.l.drop b∧PrS g L b X w')∧K v
  | .stop p e=>r=StopV p e
theorem posT_at {l : List TK} {a : Nat} {x : TK} (h : l[a]? = some x) : posT (l.drop a)=x.p:=by rw [drop_at h]; rfl
theorem wantT_ok {s : ByteArray} {l : List TK} {a : Nat} (h : isT s (l.drop a)=true) : wantT s (l.drop a) = .ok () (l.drop (a+1)):=by
 unfold wantT; rw [if_pos h,List.tail_drop]
theorem wantT_no {s : ByteArray} {l : List TK} {a : Nat} {x : TK} (hx : l[a]? = some x) (h : isT s (l.drop a)=false) : wantT s (l.drop a) = .stop x.p 12:=by
 unfold wantT; rw [if_neg (by rw [h]; decide),posT_at hx]
section
variable {g : Nat} {L : Sl TK} {a : Nat} {X : Nat→Prop}
theorem PrS.get {w : World} (h : PrS g L a X w) : ∃ x,L.l[a]? = some x:=⟨_,List.getElem?_eq_getElem h.lt⟩
theorem p_want (s : ByteArray) (w : World) (he : EndT L) (hln : L.l.length≤100000) (h : PrS g L a X w) {q : Nat} (hq : w.cell? ⟨q,0,none⟩=some (.string s)) (hqg : q≠g) (hqw : q<w.heap.size) : Calls Tryz.prog 52 #[.pointer (some ⟨g,0,none⟩),.slice (some ⟨q,0,none⟩) 1 1] w fun r w'=>PxP g L (a+1) X w w' r (wantT s (L.l.drop a)) (fun _=>r = .returned (.tuple #[])):=by
 have hc:=p_has s w he hln h;obtain ⟨x,hx⟩:=h.get;have HS:=Zh h;have HX:=Zh hx;obtain ⟨V,hV⟩ : ∃ V,isT s (L.l.drop a)=V:=⟨_,rfl⟩;have HV:=Zh hV;rw [hV] at hc;clear h hV hx;rcases V
 ·have HF:=Zh (wantT_no HX.out HV.out);rw [HF.out];clear HF;go_enter Tryz.func52,Tryz.ntmps52;go_wp2_with fail;go_loopw [8] (fun v wr=>v = .int .i64 0∧w=wr) (fun _ _=>0)
  case atStart=>exact ⟨rfl,rfl⟩
  case round =>
   obtain ⟨rfl,rfl⟩:=hrel;go_wp2_with fail;refine hc.mono ?_;clear hc;rintro r w2 ⟨rfl,hs2,hg2⟩;have HS2 : Hid (PrS g L a X w2):=Zh (by simpa using hs2);have HG2:=Zh hg2;clear hs2 hg2;go_wp2_with fail;refine (p_check_no HX.out 12 w2 HS2.out).mono ?_;rintro r w3 ⟨rfl,hb3⟩;have HG3:=Zh (grown_trans HG2.out (below_by hb3 _));clear hb3;simp only [StopV];go_wp2_with fail;exact ⟨rfl,HG3.out,rfl⟩
 ·have HF:=Zh (wantT_ok HV.out);rw [HF.out];clear HF;go_enter Tryz.func52,Tryz.ntmps52;go_wp2_with fail;go_loopw [8] (fun v wr=>(v = .int .i64 0∧w=wr)∨(v = .int .i64 1∧Hid (PrS g L (a+1) X wr)∧Hid (w.grownBy wr (some g)))) (fun v _=>1 - (intOf v).toNat)
  case atStart=>exact .inl ⟨rfl,rfl⟩
  case round =>
   rcases hrel with ⟨rfl,rfl⟩ | ⟨rfl,HS2,HG2⟩
   ·go_wp2_with fail;refine hc.mono ?_;clear hc;rintro r w2 ⟨rfl,hs2,hg2⟩;have HS2 : Hid (PrS g L (a+1) X w2):=Zh (by simpa using hs2);have HG2:=Zh hg2;clear hs2 hg2;go_wp2_with fail;refine (p_check_ok _ 12 w2).mono ?_;rintro r w3 ⟨rfl,rfl⟩;go_wp2_with fail;go_roundw
    case rel=>exact .inr ⟨rfl,HS2,HG2⟩
    case measure=>simp [intOf]
   ·clear hc;go_wp2_with fail;exact bodyPost_end (results_none rfl _ _ _) rfl ⟨HG2.out,⟨⟨a+1,Nat.le_refl _,rfl,HS2.out⟩,rfl⟩⟩
end
structure TkS (L : Sl TK) : Prop where
  end_ : EndT L
  len : L.l.length≤100000
  size : ∀ x,x ∈ L.l→x.t.size≤9223372036854775807
theorem namedT_cons (x : TK) (r : List TK) : namedT (x :: r)=(decide (x.k=0) && nameB x.t):=rfl
section
variable {g : Nat} {L : Sl TK} {a : Nat} {X : Nat→Prop}
theorem TkS.at_ {x : TK} (h : TkS L) (hx : L.l[a]? = some x) : x.t.size≤9223372036854775807:=h.size x (List.mem_of_getElem? hx)
theorem p_named (w : World) (ht : TkS L) (h : PrS g L a X w) : Calls Tryz.prog 83 #[.pointer (some ⟨g,0,none⟩)] w fun r w'=>r = .returned (.bool (namedT (L.l.drop a)))∧Below w.heap.size w w':=by
 obtain ⟨x,hx⟩:=h.get;have HC:=Zh (fun W (hW : Below w.heap.size w W)=>p_next hx W (h.later hW));have hi:=namedT_cons x (L.l.drop (a+1));have hsz:=ht.at_ hx;rw [← drop_at hx] at hi;obtain ⟨V,hV⟩ : ∃ V,namedT (L.l.drop a)=V:=⟨_,rfl⟩;rw [hV] at hi ⊢;have HI:=Zh hi;clear h hx hV hi;obtain ⟨xk,xt,xn,xp⟩:=x;simp only [TK.v] at HC HI;simp only at hsz;(have hq0 : ∀ w : World,(Instr.field 115 (Value.agg #[.int .i64 xk,.string xt,.int .i64 xn,.int .i64 xp]) 0).run Tryz.prog w = .ok (.int .i64 xk) w:=fun _=>by kernel_rfl);(have hq1 : ∀ w : World,(Instr.field 115 (Value.agg #[.int .i64 xk,.string xt,.int .i64 xn,.int .i64 xp]) 1).run Tryz.prog w = .ok (.string xt) w:=fun _=>by kernel_rfl);by_cases h3 : xk=0
 ·have HF : Hid (nameB xt=V):=Zh (by rw [HI.out,decide_eq_true h3]; rfl);(have hn : (xk == 0)=true:=by rw [h3]; rfl);clear h3;go_enter Tryz.func83,Tryz.ntmps83;go_wp2_with fail;refine (HC.out _ Zz).mono ?_;rintro r w2 ⟨rfl,hb2⟩;have HB2:=Zh hb2;clear hb2;go_wp2_with fail;refine (HC.out _ HB2.out).mono ?_;rintro r w3 ⟨rfl,hb3⟩;have HB3:=Zt HB2 hb3;clear hb3;go_wp2_with fail;refine (syn_name xt _ hsz).mono ?_;rintro r w4 ⟨rfl,hb4⟩;have HB4:=Zt HB3 hb4;clear hb4;go_wp2_with fail;go_ret;exact ⟨ret_bool HF.out,HB4.out⟩
 ·have HF : Hid (false=V):=Zh (by rw [HI.out,decide_eq_false h3]; rfl);(have hn : (xk == 0)=false:=by simpa using h3);clear h3;go_enter Tryz.func83,Tryz.ntmps83;go_wp2_with fail;refine (HC.out _ Zz).mono ?_;rintro r w2 ⟨rfl,hb2⟩;have HB2:=Zh hb2;clear hb2;go_wp2_with fail;go_ret;exact ⟨ret_bool HF.out,HB2.out⟩
theorem namedT_lt (he : EndT L) (ha : a<L.l.length) (h : namedT (L.l.drop a)=true) : a+1<L.l.length:=by
 refine he a (by rw [List.getElem?_eq_getElem ha]; simp) (fun x hx=>?_);rw [drop_at hx,namedT_cons] at h;simp only [Bool.and_eq_true,decide_eq_true_eq] at h;omega
theorem nameT_ok {l : List TK} {x : TK} (hx : l[a]? = some x) (h : namedT (l.drop a)=true) : nameT (l.drop a) = .ok x.t (l.drop (a+1)):=by
 unfold nameT; rw [if_pos h,List.tail_drop,drop_at hx]; rfl
theorem nameT_no {l : List TK} {x : TK} (hx : l[a]? = some x) (h : namedT (l.drop a)=false) : nameT (l.drop a) = .stop x.p 12:=by
 unfold nameT; rw [if_neg (by rw [h]; decide),posT_at hx]
theorem p_name (w : World) (ht : TkS L) (h : PrS g L a X w) : Calls Tryz.prog 53 #[.pointer (some ⟨g,0,none⟩)] w fun r w'=>PxP g L (a+1) X w w' r (nameT (L.l.drop a)) (fun s=>r = .returned (.string s)):=by
 have hc:=p_named w ht h;obtain ⟨x,hx⟩:=h.get;have HS:=Zh h;have HX:=Zh hx;have HT:=Zh ht;have hlt:=namedT_lt ht.end_ h.lt;obtain ⟨V,hV⟩ : ∃ V,namedT (L.l.drop a)=V:=⟨_,rfl⟩;have HV:=Zh hV;rw [hV] at hc hlt;clear h hV hx ht;rcases V
 ·have HF:=Zh (nameT_no HX.out HV.out);rw [HF.out];clear HF hlt;go_enter Tryz.func53,Tryz.ntmps53;go_wp2_with fail;refine hc.mono ?_;clear hc;rintro r w2 ⟨rfl,hb2⟩;have HB2:=Zh hb2;clear hb2;go_wp2_with fail;refine (p_check_no HX.out 12 w2 (HS.out.later HB2.out)).mono ?_;rintro r w3 ⟨rfl,hb3⟩;have HG3:=Zh (below_by (HB2.out.trans (hb3.mono HB2.out.size)) (some g));clear hb3;simp only [StopV];go_wp2_with fail;exact ⟨rfl,HG3.out,rfl⟩
 ·have HF:=Zh (nameT_ok HX.out HV.out);rw [HF.out];clear HF;have HLT:=Zh (hlt rfl);clear hlt;(have hq1 : ∀ w : World,(Instr.field 115 x.v 1).run Tryz.prog w = .ok (.string x.t) w:=fun _=>by obtain ⟨xk,xt,xn,xp⟩:=x; kernel_rfl);go_enter Tryz.func53,Tryz.ntmps53;go_wp2_with fail;refine hc.mono ?_;clear hc;rintro r w2 ⟨rfl,hb2⟩;have HB2:=Zh hb2;clear hb2;go_wp2_with fail;refine (p_check_ok _ 12 w2).mono ?_;rintro r w3 ⟨rfl,rfl⟩;go_wp2_with fail;refine (p_next HX.out w2 (HS.out.later HB2.out)).mono ?_;rintro r w3 ⟨rfl,hb3⟩;have HB3:=Zt HB2 hb3;have HS3:=Zh (HS.out.later HB3.out);clear hb3;have hal : a<100000:=Nat.lt_of_lt_of_le HS.out.lt HT.out.len;obtain ⟨b0,b1,bf,bz⟩:=HS3.out.blk.b2;(have hwr : IntKind.i64.wrap ((a : Int)+1)=((a+1 : Nat) : Int):=by rw [IntKind.wrap_i64]; omega);go_wp2_with fail;go_ret;exact ⟨grown_trans (below_by HB3.out _) (grown_st1 1 _),⟨a+1,Nat.le_refl _,rfl,by simpa using HS3.out.move HLT.out⟩,rfl⟩
theorem unitT_0 {l : List TK} (h1 : isT ⟨#[99,101,110,116,115]⟩ l=false) (h2 : isT ⟨#[109,105,110,117,116,101,115]⟩ l=false) : unitT l=(0,l):=by
 unfold unitT; rw [if_neg (by rw [h1]; decide),if_neg (by rw [h2]; decide)]
theorem unitT_1 {l : List TK} (h1 : isT ⟨#[99,101,110,116,115]⟩ l=true) : unitT l=(1,l.tail):=by
 unfold unitT; rw [if_pos h1]
theorem unitT_2 {l : List TK} (h1 : isT ⟨#[99,101,110,116,115]⟩ l=false) (h2 : isT ⟨#[109,105,110,117,116,101,115]⟩ l=true) : unitT l=(2,l.tail):=by
 unfold unitT; rw [if_neg (by rw [h1]; decide),if_pos h2]
theorem p_unit (w : World) (ht : TkS L) (h : PrS g L a X w) : Calls Tryz.prog 227 #[.pointer (some ⟨g,0,none⟩)] w fun r w'=>r = .returned (.int .i64 (unitT (L.l.drop a)).1)∧(∃ b,a≤b∧(unitT (L.l.drop a)).2=L.l.drop b∧PrS g L b X w')∧w.grownBy w' (some g):=by
 have HC:=Zh (p_has ⟨#[99,101,110,116,115]⟩ w ht.end_ ht.len h);have HC2:=Zh (fun W (hW : PrS g L a X W)=>p_has ⟨#[109,105,110,117,116,101,115]⟩ W ht.end_ ht.len hW);obtain ⟨V,hV⟩ : ∃ V,isT ⟨#[99,101,110,116,115]⟩ (L.l.drop a)=V:=⟨_,rfl⟩;have HV:=Zh hV;rw [hV] at HC;clear hV h;rcases V
 ·obtain ⟨V2,hV2⟩ : ∃ V,isT ⟨#[109,105,110,117,116,101,115]⟩ (L.l.drop a)=V:=⟨_,rfl⟩;have HV2:=Zh hV2;rw [hV2] at HC2;clear hV2;rcases V2
  ·have HF:=Zh (unitT_0 HV.out HV2.out);rw [HF.out];clear HF;go_enter Tryz.func227,Tryz.ntmps227;go_wp2_with fail;refine HC.out.mono ?_;rintro r w2 ⟨rfl,hs2,hg2⟩;have HS2 : Hid (PrS g L a X w2):=Zh (by simpa using hs2);have HG2:=Zh hg2;clear hs2 hg2;go_wp2_with fail;refine (HC2.out _ HS2.out).mono ?_;rintro r w3 ⟨rfl,hs3,hg3⟩;have HS3 : Hid (PrS g L a X w3):=Zh (by simpa using hs3);have HG3:=Zh (grown_trans HG2.out hg3);clear hs3 hg3;go_wp2_with fail;go_ret;exact ⟨rfl,⟨a,Nat.le_refl _,rfl,HS3.out⟩,HG3.out⟩
  ·have HF:=Zh (unitT_2 HV.out HV2.out);rw [HF.out,List.tail_drop];clear HF;go_enter Tryz.func227,Tryz.ntmps227;go_wp2_with fail;refine HC.out.mono ?_;rintro r w2 ⟨rfl,hs2,hg2⟩;have HS2 : Hid (PrS g L a X w2):=Zh (by simpa using hs2);have HG2:=Zh hg2;clear hs2 hg2;go_wp2_with fail;refine (HC2.out _ HS2.out).mono ?_;rintro r w3 ⟨rfl,hs3,hg3⟩;have HS3 : Hid (PrS g L (a+1) X w3):=Zh (by simpa using hs3);have HG3:=Zh (grown_trans HG2.out hg3);clear hs3 hg3;go_wp2_with fail;go_ret;exact ⟨rfl,⟨a+1,Nat.le_succ _,rfl,HS3.out⟩,HG3.out⟩
 ·have HF:=Zh (unitT_1 HV.out);rw [HF.out,List.tail_drop];clear HF;go_enter Tryz.func227,Tryz.ntmps227;go_wp2_with fail;refine HC.out.mono ?_;rintro r w2 ⟨rfl,hs2,hg2⟩;have HS2 : Hid (PrS g L (a+1) X w2):=Zh (by simpa using hs2);have HG2:=Zh hg2;clear hs2 hg2;go_wp2_with fail;go_ret;exact ⟨rfl,⟨a+1,Nat.le_succ _,rfl,HS2.out⟩,HG2.out⟩
end
def oenc (o : ByteArray × Int × Int) : List Value:=[.string o.1,.int .i64 o.2.1,.int .i64 o.2.2]
def ov (o : ByteArray × Int × Int) : Value:=.agg #[.string o.1,.int .i64 o.2.1,.int .i64 o.2.2]
theorem oenc_k (o : ByteArray × Int × Int) : (oenc o).length=3:=rfl
def opsC : Array Value:=#[.string ⟨#[111,114]⟩,.int .i64 14,.int .i64 1,.string ⟨#[97,110,100]⟩,.int .i64 13,.int .i64 2,.string ⟨#[61,61]⟩,.int .i64 11,.int .i64 4,.string ⟨#[60]⟩,.int .i64 10,.int .i64 4,.string ⟨#[43]⟩,.int .i64 4,.int .i64 5,.string ⟨#[45]⟩,.int .i64 5,.int .i64 5,.string ⟨#[42]⟩,.int .i64 6,.int .i64 6,.string ⟨#[47]⟩,.int .i64 7,.int .i64 6]
theorem opsC_is : opsC.toList=opsL.flatMap oenc:=by rfl
theorem syn_operators (w : World) : Calls Tryz.prog 131 #[] w fun e w'=>e = .returned (.slice (some ⟨w.heap.size,0,none⟩) 8 8)∧Rd (Nw w.heap.size w') 3 oenc w' ⟨some ⟨w.heap.size,0,none⟩,8,opsL⟩∧Below w.heap.size w w':=by
 have hown : Own w.heap.size 191 3 oenc (w.alloc (.cells opsC 191)) ⟨some ⟨w.heap.size,0,none⟩,8,opsL⟩:=Own.lit w opsC opsL Zl (by decide) opsC_is oenc_k;have HO:=Zh hown;clear hown;go_enter Tryz.func131,Tryz.ntmps131;go_wp2_with fail;go_ret;exact ⟨rfl,HO.out.rd oenc_k,qbl⟩
theorem idx_op (l : Sl (ByteArray × Int × Int)) (p : ByteArray × Int × Int→Bool) (g : Nat) (w : World) (hr : Rd (· < w.heap.size) 3 oenc w l) (hp : ∀ W x,x ∈ l.l→Below w.heap.size w W→Calls Tryz.prog 132 (#[ov x] ++ #[.pointer (some ⟨g,0,none⟩)]) W fun e w'=>e = .returned (.bool (p x))∧Below W.heap.size W w') : Calls Tryz.prog 130 #[.slice l.A l.l.length l.c,.func (.func 132) #[] #[.pointer (some ⟨g,0,none⟩)]] w fun e w'=>e = .returned (.int .i64 (idxP p 0 l.l))∧Below w.heap.size w w':=by
 obtain ⟨A,c,l⟩:=l;have hn:=hr.len;simp only at hn;have HR:=Zh hr;clear hr;simp only;simp only at hp;go_enter Tryz.func130,Tryz.ntmps130;go_wp2_with fail;go_loopw [5,8] (fun u i wr=>∃ (k : Nat),k≤l.length∧i = .int .i64 k∧Below w.heap.size w wr∧Hid (idxP p 0 l=idxP p k (l.drop k))) (fun _ i _=>l.length - (intOf i).toNat)
 case atStart=>exact ⟨0,by omega,rfl,qbl,Zh Zs⟩
 case round =>
  obtain ⟨k,hk,rfl,hbel,HG⟩:=hrel;have hhe : w.heap.size≤wr.heap.size:=hbel.size;by_cases hlt : k<l.length
  ·obtain ⟨b,o,rfl,hb,hcl⟩:=HR.out.at1 hlt;have hcl2:=hcl.keep (hbel.block b hb);have hd : l.drop k=l[k] :: l.drop (k+1):=List.drop_eq_getElem_cons hlt;have hgo:=HG.out;rw [hd] at hgo;have HGO:=Zh hgo;have hcall:=hp wr l[k] (List.getElem_mem hlt) hbel;clear hd hgo hcl HG hp;generalize l[k]=x at *;obtain ⟨bq,hb0⟩ : ∃ bq,p x=bq:=⟨_,rfl⟩;rw [hb0] at hcall;have HB0:=Zh hb0;clear hb0;obtain ⟨s,op,fm⟩:=x;have gg:=hcl2.c3;obtain ⟨g0,g1,g2⟩:=gg;simp only [ov] at hcall;clear hcl2;rcases bq
   ·go_wp2_with fail;refine hcall.mono ?_;clear hcall;rintro e w1 ⟨rfl,hb1⟩;have hB1 : Below w.heap.size w w1:=qbv;clear hb1;go_wp2_with fail;go_roundw
    case rel=>exact ⟨k+1,by omega,by go_num,hB1,Zh (by rw [HGO.out,idxP,HB0.out]; rfl)⟩
    case measure=>simp [intOf]; omega
   ·go_wp2_with fail;refine hcall.mono ?_;clear hcall;rintro e w1 ⟨rfl,hb1⟩;have hB1 : Below w.heap.size w w1:=qbv;clear hb1;go_wp2_with fail;go_ret;exact ⟨ret_int (by rw [HGO.out,idxP,HB0.out]; rfl),hB1⟩
  ·have hkl : l.drop k=[]:=List.drop_eq_nil_of_le Zo;have hgo:=HG.out;rw [hkl] at hgo;have HGO:=Zh hgo;clear hkl hgo HG;go_wp2_with fail;go_ret;exact ⟨ret_int (by rw [HGO.out]; rfl),hbel⟩
section
variable {g : Nat} {L : Sl TK} {a : Nat} {X : Nat→Prop}
theorem p_exp1 (o : ByteArray × Int × Int) (q : Nat) (w : World) (h : PrS g L a X w) (hq : w.cell? ⟨q,0,none⟩=some (.pointer (some ⟨g,0,none⟩))) (hqw : q<w.heap.size) : Calls Tryz.prog 132 #[ov o,.pointer (some ⟨q,0,none⟩)] w fun r w'=>r = .returned (.bool (isT o.1 (L.l.drop a)))∧Below w.heap.size w w':=by
 obtain ⟨s,op,fm⟩:=o;(have hne : q≠w.heap.size:=by omega);have HB1 : Hid (Below w.heap.size w (w.alloc (.cells #[.string s,.int .i64 op,.int .i64 fm] 191))):=Zh qbl;have HS:=Zh (h.later HB1.out);clear h;simp only [ov];go_enter Tryz.func132,Tryz.ntmps132;go_wp2_with fail;refine (p_is s _ HS.out).mono ?_;rintro r w2 ⟨rfl,hb2⟩;have HB2:=Zt HB1 hb2;clear hb2;go_wp2_with fail;go_ret;exact ⟨rfl,HB2.out⟩
theorem p_op (q : Nat) (w : World) (s : Sl (ByteArray × Int × Int)) (hl : s.l=opsL) (hr : Rd (· < w.heap.size) 3 oenc w s) (h : PrS g L a X w) (hq : w.cell? ⟨q,0,none⟩=some (.pointer (some ⟨g,0,none⟩))) (hqw : q<w.heap.size) : Calls Tryz.prog 130 #[.slice s.A s.l.length s.c,.func (.func 132) #[] #[.pointer (some ⟨q,0,none⟩)]] w fun e w'=>e = .returned (.int .i64 (idxP (fun o=>isT o.1 (L.l.drop a)) 0 opsL))∧Below w.heap.size w w':=by
 rw [← hl];exact idx_op s (fun o=>isT o.1 (L.l.drop a)) q w hr (fun W x _ hb=>p_exp1 x q W (h.later hb) (keep_cell hb hq) (Nat.lt_of_lt_of_le hqw hb.size))
end
theorem grown_setq {w W : World} {g q i : Nat} {u : Value} (hg : w.grownBy W (some g)) (hq : w.heap.size≤q) : w.grownBy (W.setCell ⟨q,i,none⟩ u) (some g) :=
 ⟨hg.os,hg.tape,hg.output,by simpa using hg.size,fun j hj hr=>(Below.heap_setCell W ⟨q,i,none⟩ u j (by simp; omega)).trans (hg.block j hj hr)⟩
theorem grown_alloc {w W : World} {g : Nat} (hg : w.grownBy W (some g)) (o : Obj) : w.grownBy (W.alloc o) (some g):=grown_trans hg (below_by (Zz.alloc Zl o) _)
theorem grown_drew {w W : World} {g : Nat} (hg : w.grownBy W (some g)) : w.grownBy W.drew (some g):=grown_trans hg (below_by Zz.drew _)
def set5 (W : World) (q : Nat) (a b c d e : Value) : World:=((((W.setCell ⟨q,0,none⟩ a).setCell ⟨q,1,none⟩ b).setCell ⟨q,2,none⟩ c).setCell ⟨q,3,none⟩ d).setCell ⟨q,4,none⟩ e
theorem grown_set5 {w W : World} {g q : Nat} {a b c d e : Value} (hg : w.grownBy W (some g)) (hq : w.heap.size≤q) : w.grownBy (set5 W q a b c d e) (some g):=grown_setq (grown_setq (grown_setq (grown_setq (grown_setq hg hq) hq) hq) hq) hq
theorem pt_set {Y : Nat→Prop} {W : World} {t : PT} {q i : Nat} {u : Value} (h : PT.At (Nm Y W) W t) (hq : Y q) : PT.At (Nm Y (W.setCell ⟨q,i,none⟩ u)) (W.setCell ⟨q,i,none⟩ u) t :=
 h.keep (fun b hb=>Below.heap_setCell W ⟨q,i,none⟩ u b (fun e=>hb.2 (by rw [e]; exact hq))) (fun b hb=>⟨by simpa using hb.1,hb.2⟩)
theorem pt_set5 {Y : Nat→Prop} {W : World} {t : PT} {q : Nat} {a b c d e : Value} (h : PT.At (Nm Y W) W t) (hq : Y q) : PT.At (Nm Y (set5 W q a b c d e)) (set5 W q a b c d e) t:=pt_set (pt_set (pt_set (pt_set (pt_set h hq) hq) hq) hq) hq
theorem pt_leafD (F : Nat→Prop) (w : World) (o n u : Int) (s : ByteArray) (h : s.size≤9223372036854775807) : PT.At F w ⟨o,n,u,s,none,0,[]⟩:=.mk h (Rd.nil _ _ _ _) (fun x hx=>by cases hx)
theorem pt_less {X Y : Nat→Prop} {W : World} {t : PT} (h : PT.At (Nm Y W) W t) (hXY : ∀ b,X b→Y b) : PT.At (Nm X W) W t:=h.mono fun _ hb=>hb.less hXY
section
variable {g : Nat} {L : Sl TK} {a b : Nat} {X Y : Nat→Prop} {w W : World}
theorem PrS.set5 {q : Nat} {v0 v1 v2 v3 v4 : Value} (h : PrS g L a Y W) (hq : Y q) (hg : g≠q) : PrS g L a Y (set5 W q v0 v1 v2 v3 v4) :=
 ((((h.set_ (p:=⟨q,0,none⟩) hq hg _).set_ (p:=⟨q,1,none⟩) hq hg _).set_ (p:=⟨q,2,none⟩) hq hg _).set_ (p:=⟨q,3,none⟩) hq hg _).set_ (p:=⟨q,4,none⟩) hq hg _
def ReadP (X : Nat→Prop) (w' : World) (s : PS) (v : Value→Ending) (r : Ending) : Prop:=∃ t : PT,shp t=s∧PT.At (Nm X w') w' t∧r=v t.v
def expV (v : Value) : Ending:=.returned v
def preV (n : Int) (v : Value) : Ending:=.returned (.tuple #[v,.int .i64 n])
theorem pxp_end {q lo : Nat} {r : Ending} {o n u : Int} {s : ByteArray} {A : Option Addr} {c : Nat} {l : List PT} {m : Int} {v : Value→Ending} {PV : PX (PS × Int)} (hP : PV = .ok (shp ⟨o,n,u,s,A,c,l⟩,m) (L.l.drop b)) (hs : PrS g L b Y W) (hg : w.grownBy W (some g)) (hqw : w.heap.size≤q) (hq : Y q) (hgq : g≠q) (hX : X g) (hXY : ∀ b,X b→Y b) (hlo : lo≤b) (ht : PT.At (Nm Y W) W ⟨o,n,u,s,A,c,l⟩) (hr : r=v (.agg #[.int .i64 o,.int .i64 n,.int .i64 u,.string s,.slice A l.length c])) : PxP g L lo X w (set5 W q (.int .i64 o) (.int .i64 n) (.int .i64 u) (.string s) (.slice A l.length c)) r PV (fun p=>ReadP X (set5 W q (.int .i64 o) (.int .i64 n) (.int .i64 u) (.string s) (.slice A l.length c)) p.1 v r):=by
 subst hP;exact ⟨grown_set5 hg hqw,⟨b,hlo,rfl,(hs.set5 hq hgq).less hXY hX⟩,⟨_,rfl,pt_less (pt_set5 ht hq) hXY,hr⟩⟩
theorem PxP.imp {α : Type} {lo : Nat} {w' : World} {r : Ending} {PV : PX α} {K K' : α→Prop} {v : α} {l : List TK} (h : PxP g L lo X w w' r PV K) (hP : PV = .ok v l) (hk : K v→K' v) : PxP g L lo X w w' r PV K':=by
 subst hP;exact ⟨h.1,h.2.1,hk h.2.2⟩
theorem pxp_node {q lo k : Nat} {r : Ending} {op m : Int} {l : List PT} {cs : Array Value} {v : Value→Ending} {PV : PX (PS × Int)} (hcs : cs.toList=l.flatMap PT.enc) (hl : l.length=k) (hk : k≤3) (hP : PV = .ok (.mk op 0 0 empS (l.map shp),m) (L.l.drop b)) (hs : PrS g L b Y W) (hg : w.grownBy W (some g)) (hqw : w.heap.size≤q) (hq : Y q) (hgq : g≠q) (hX : X g) (hXY : ∀ b,X b→Y b) (hlo : lo≤b) (ht : ∀ x,x ∈ l→PT.At (Nm Y W) W x) (hr : r=v (.agg #[.int .i64 op,.int .i64 0,.int .i64 0,.string ⟨#[]⟩,.slice (some ⟨W.heap.size,0,none⟩) k k])) : PxP g L lo X w ((set5 W q (.int .i64 op) (.int .i64 0) (.int .i64 0) (.string ⟨#[]⟩) (.slice (some ⟨W.heap.size,0,none⟩) k k)).alloc (.cells cs 26)) r PV (fun p=>ReadP X ((set5 W q (.int .i64 op) (.int .i64 0) (.int .i64 0) (.string ⟨#[]⟩) (.slice (some ⟨W.heap.size,0,none⟩) k k)).alloc (.cells cs 26)) p.1 v r):=by
 subst hP hl;(have hz : (set5 W q (.int .i64 op) (.int .i64 0) (.int .i64 0) (.string ⟨#[]⟩) (.slice (some ⟨W.heap.size,0,none⟩) l.length l.length)).heap.size=W.heap.size:=by simp [set5]);have hS:=hs.set5 (v0:=.int .i64 op) (v1:=.int .i64 0) (v2:=.int .i64 0) (v3:=.string ⟨#[]⟩) (v4:=.slice (some ⟨W.heap.size,0,none⟩) l.length l.length) hq hgq;have hG:=grown_set5 (a:=.int .i64 op) (b:=.int .i64 0) (c:=.int .i64 0) (d:=.string ⟨#[]⟩) (e:=.slice (some ⟨W.heap.size,0,none⟩) l.length l.length) hg hqw;have hT : ∀ x,x ∈ l→PT.At (Nm Y (set5 W q (.int .i64 op) (.int .i64 0) (.int .i64 0) (.string ⟨#[]⟩) (.slice (some ⟨W.heap.size,0,none⟩) l.length l.length))) (set5 W q (.int .i64 op) (.int .i64 0) (.int .i64 0) (.string ⟨#[]⟩) (.slice (some ⟨W.heap.size,0,none⟩) l.length l.length)) x:=fun x hx=>pt_set5 (ht x hx) hq;generalize set5 W q (.int .i64 op) (.int .i64 0) (.int .i64 0) (.string ⟨#[]⟩) (.slice (some ⟨W.heap.size,0,none⟩) l.length l.length)=S at *;have HO:=(Own.lit (base:=S.heap.size) (e:=26) S cs l Zl (by simp only [maxLen]; omega) hcs PT.enc_k).rd PT.enc_k;have hA : Below S.heap.size S (S.alloc (.cells cs 26)):=Zz.alloc Zl _;have hxl : ∀ b,Y b→b<S.heap.size:=fun b hb=>hS.xlt b hb;rw [hz] at HO;refine ⟨grown_alloc hG _,⟨b,hlo,rfl,(hS.later hA).less hXY hX⟩,⟨⟨op,0,0,⟨#[]⟩,some ⟨W.heap.size,0,none⟩,l.length,l⟩,shp_mk _ _ _ _ _ _ _, ?_,hr⟩⟩;refine .mk (by decide) (HO.mono (fun b hb=>⟨hb.2,fun hx=>?_⟩)) (fun x hx=>pt_less ((hT x hx).more hA (Mor.refl _ _ _)) hXY);have h1:=hxl b (hXY b hx);have h2:=hb.1;omega
theorem pxp_stop {lo : Nat} {α : Type} {p e : Int} {PV : PX α} {K : α→Prop} {r : Ending} (hP : PV = .stop p e) (hg : w.grownBy W (some g)) (hr : r=StopV p e) : PxP g L lo X w W r PV K:=by
 subst hP;exact ⟨hg,hr⟩
end
theorem nameT_size {L : Sl TK} {a : Nat} {s : ByteArray} {l : List TK} (ht : TkS L) (ha : a<L.l.length) (h : nameT (L.l.drop a) = .ok s l) : s.size≤9223372036854775807:=by
 have hx:=List.getElem?_eq_getElem ha;cases hb : namedT (L.l.drop a)
 ·rw [nameT_no hx hb] at h; cases h
 ·rw [nameT_ok hx hb] at h;cases h;exact ht.at_ hx
theorem nT {b : Bool} (h : b=false) : ¬ b=true:=by rw [h]; decide
theorem pR_prim {f : Nat} {l : List TK} {a : Nat} {x : TK} (hx : l[a]? = some x) : pR (f+1) .prim (l.drop a)=if x.k=1 then .ok (.mk 0 x.n (unitT (l.drop (a+1))).1 empS [],7) (unitT (l.drop (a+1))).2 else if isT ⟨#[116,114,117,101]⟩ (l.drop a)=true then .ok (.mk 0 1 3 empS [],7) (l.drop (a+1)) else if isT ⟨#[102,97,108,115,101]⟩ (l.drop a)=true then .ok (.mk 0 0 3 empS [],7) (l.drop (a+1)) else if isT ⟨#[116,114,105,112]⟩ (l.drop a)=true then (nameT (l.drop (a+1))).bind fun s r=>.ok (.mk 2 0 0 s [],7) r else if isT ⟨#[109,101,109,98,101,114]⟩ (l.drop a)=true then (nameT (l.drop (a+1))).bind fun s r=>.ok (.mk 3 0 0 s [],7) r else if isT ⟨#[109,105,110]⟩ (l.drop a)=true∨isT ⟨#[109,97,120]⟩ (l.drop a)=true then (wantT ⟨#[40]⟩ (l.drop (a+1))).bind fun _ q=>(pR f (.exp 0) q).bind fun y q=>(wantT ⟨#[44]⟩ q).bind fun _ q=>(pR f (.exp 0) q).bind fun b q=>(wantT ⟨#[41]⟩ q).bind fun _ q=>.ok (.mk (if isT ⟨#[109,97,120]⟩ (l.drop a)=true then 9 else 8) 0 0 empS [y.1,b.1],7) q else if isT ⟨#[40]⟩ (l.drop a)=true then (pR f (.exp 0) (l.drop (a+1))).bind fun y q=>(wantT ⟨#[41]⟩ q).bind fun _ q=>.ok (y.1,7) q else (nameT (l.drop a)).bind fun s q=>.ok (.mk 1 0 0 s [],7) q:=by
 rw [drop_at hx,pR];rfl
theorem pR_pre (f : Nat) (form : Int) (l : List TK) (a : Nat) : pR (f+1) (.pre form) (l.drop a)=if form=0∧isT ⟨#[105,102]⟩ (l.drop a)=true then (pR f (.exp 0) (l.drop (a+1))).bind fun x r=>(wantT ⟨#[116,104,101,110]⟩ r).bind fun _ r=>(pR f (.exp 0) r).bind fun b r=>(wantT ⟨#[101,108,115,101]⟩ r).bind fun _ r=>(pR f (.exp 0) r).bind fun c r=>.ok (.mk 15 0 0 empS [x.1,b.1,c.1],0) r else if form≤3∧isT ⟨#[110,111,116]⟩ (l.drop a)=true then (pR f (.exp 3) (l.drop (a+1))).bind fun x r=>.ok (.mk 12 0 0 empS [x.1],3) r else (pR f .prim (l.drop a)).bind fun x r=>.ok (x.1,7) r:=by
 rw [pR,List.tail_drop]
theorem pR_exp (f : Nat) (form : Int) (r : List TK) : pR (f+1) (.exp form) r=(pR f (.pre form) r).bind fun x r=>pR f (.loop form x.2 x.1) r:=by rw [pR]
theorem pR_loop_none {f : Nat} {form own : Int} {e : PS} {r : List TK} (h : opT r=none) : pR (f+1) (.loop form own e) r = .ok (e,own) r:=by rw [pR,h]
theorem pR_loop_some {f : Nat} {form own op fm : Int} {e : PS} {r : List TK} (h : opT r=some (op,fm)) : pR (f+1) (.loop form own e) r=if fm<form∨own<fm∨(own=4∧fm=4) then .ok (e,own) r else (pR f (.exp (fm+1)) r.tail).bind fun b q=>pR f (.loop form fm (.mk op 0 0 empS [e,b.1])) q:=by rw [pR,h]
end Go.Proofs.YtpbdjpfbhicmdaaGreatDoor
