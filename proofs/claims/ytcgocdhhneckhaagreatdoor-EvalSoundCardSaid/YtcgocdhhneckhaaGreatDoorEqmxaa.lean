/- Walk: units.unit: a panic with a reason is recovered. -/
import Derived.Test.YtcgocdhhneckhaaGreatDoorEvbxaw
import Derived.Recover
set_option linter.unusedSimpArgs false
set_option linter.unusedVariables false
set_option maxRecDepth 100000
set_option maxHeartbeats 6400000
namespace Go.Proofs.YtcgocdhhneckhaaGreatDoor
open Go.RowKit
def rsnV (A : Option Addr) (n c : Nat) (en : Int) : Value:=.iface 99 (.agg #[.slice A n c,.int .i64 en])
theorem un_catch_idle (p q : Addr) (w : World) : CallsD Tryz.prog 105 #[.pointer (some p),.pointer (some q)] .returning w fun e u' w'=>e = .returned (.tuple #[])∧u' = .returning∧w'=w:=by
 refine callsD_of_wpS Tryz.func105 rfl fun c₀ cs hu=>?_;apply wpS_seq;apply wpS_region;simp [wpOpsS,go_sem,recoverD,hu,Tryz.ntmps105,Exit.thenS];refine wpS_of_wp ?_;generalize htm : (#[Value.pointer (some p),Value.pointer (some q)] ++ ((Array.replicate 6 undef).setIfInBounds 1 Value.nilIface).setIfInBounds 0 Value.nilIface)=tm;(have htm2 : tm = #[.pointer (some p),.pointer (some q),.nilIface,.nilIface,undef,undef,undef,undef]:=by rw [← htm]; rfl);subst htm2;clear htm;go_wp2_with fail;exact ⟨rfl,.returning,by rw [← hu],_,by simp [results,Tryz.results105,go_sem],rfl,rfl,rfl⟩
theorem un_catch (p q : Nat) (hpq : p≠q) (B : Nat) (hBp : B≤p) (hBq : B≤q) (A : Option Addr) (n c : Nat) (en : Int) (older : List PanicEntry) (w : World) (x y z : Value) (hp : Blk w p 3 #[x]) (hq : Blk w q 99 #[y,z]) : CallsD Tryz.prog 105 #[.pointer (some ⟨p,0,none⟩),.pointer (some ⟨q,0,none⟩)] (.panicking ({ v:=rsnV A n c en,recovered:=false } :: older)) w fun e u' w' =>
 e = .returned (.tuple #[])∧u' = .panicking ({ v:=rsnV A n c en,recovered:=true } :: older)∧Blk w' p 3 #[.int .i64 0]∧Blk w' q 99 #[.slice A n c,.int .i64 en]∧Below B w w':=by
 unfold rsnV
 refine callsD_of_wpS Tryz.func105 rfl fun c₀ cs hu=>?_
 apply wpS_seq
 apply wpS_region
 simp [wpOpsS,go_sem,recoverD,hu,Tryz.ntmps105,Exit.thenS]
 refine wpS_of_wp ?_
 generalize htm : (#[Value.pointer (some ⟨p,0,none⟩),Value.pointer (some ⟨q,0,none⟩)] ++ ((Array.replicate 6 undef).setIfInBounds 1 (Value.iface 99 (Value.agg #[Value.slice A n c,Value.int IntKind.i64 en]))).setIfInBounds 0 (Value.iface 99 (Value.agg #[Value.slice A n c,Value.int IntKind.i64 en])))=tm
 have htm2 : tm = #[.pointer (some ⟨p,0,none⟩),.pointer (some ⟨q,0,none⟩),(Value.iface 99 (Value.agg #[Value.slice A n c,Value.int IntKind.i64 en])),(Value.iface 99 (Value.agg #[Value.slice A n c,Value.int IntKind.i64 en])),undef,undef,undef,undef]:=by rw [← htm]; rfl
 subst htm2
 clear htm
 have HP:=Zh hp
 have HQ:=Zh hq
 obtain ⟨p0,pf,pz⟩:=hp.b1
 obtain ⟨q0,q1,qf,qz⟩:=hq.b2
 clear hp hq hu
 go_wp2_with fail
 have hta : ∀ (w : World),(Instr.typeAssert (Value.iface 99 (Value.agg #[Value.slice A n c,Value.int IntKind.i64 en])) 20 99 false).run Tryz.prog w = .ok (Value.agg #[Value.slice A n c,Value.int IntKind.i64 en]) w:=fun _=>by kernel_rfl
 refine wp_region_T (fun W=>True) (fun _=>false) Zy trivial (fun hHeld=>?_)
 refine Zr 0 ?_
 clear hHeld
 have hHeld : True:=trivial
 refine wpAnyT_take2 (i:=1) (v:=Value.agg #[Value.slice A n c,Value.int IntKind.i64 en]) rfl rfl Zy Zy Zy Zy (fun _ _ _ h=>h) (Or.inl ⟨by rfl, ?_⟩) (by first | assumption | trivial) ?_
 ·(intro w hSw; (try dsimp only at hSw); go_simp) <;> (first | (with_reducible rfl) | assumption | (simp; done) | (simp [*]; done) | (simp; omega))
 simp only [qsa,qsb,qsc]
 refine Zn 2 ?_
 go_wp2_with fail
 refine Zn 3 ?_
 go_wp2_with fail
 refine Ze ?_
 go_wp2_with fail
 refine ⟨rfl,_,rfl,_,by simp [results,Tryz.results105,go_sem],rfl,rfl, ?_, ?_, ?_⟩
 ·exact Blk.drew (by simpa using ((HP.out.set_ 0 (.int .i64 0)).far hpq (.slice A n c)).far hpq (.int .i64 en))
 ·exact Blk.drew (by simpa using ((HQ.out.far (Ne.symm hpq) (.int .i64 0)).set_ 0 (.slice A n c)).set_ 1 (.int .i64 en))
 ·exact Below.drew ((((Below.refl B w).setCell hBp _).setCell hBq _).setCell hBq _)
def UnitP (w w' : World) (x : Int × Int) (r : Ending) : Prop:=(∃ (A : Option Addr) (n c : Nat),r = .returned (.tuple #[.int .i64 (if x.2=0 then x.1 else 0),.agg #[.slice A n c,.int .i64 x.2]]))∧Below w.heap.size w w'
theorem un_unit (L : Sl LT) (U : Sl Int) (e : PT) (w : World) (hk : rexp e=true) (he : PT.At (· < w.heap.size) w e) (hL : LetsAt (· < w.heap.size) w L) (hU : Rd (· < w.heap.size) 1 ienc w U) (hlen : U.l.length=L.l.length) : Calls Tryz.prog 56 #[ScV L U,e.v] w fun r w'=>UnitP w w' (unU L.l U.l 12 e) r:=by
 have hmf : ∀ (fn : Fn) (first cap : Array Value) (w : World),(Instr.makeFunc fn first cap).run Tryz.prog w = .ok (.func fn first cap) w:=fun _ _ _ _=>rfl;have HO:=Zh (fun W (hW : Below w.heap.size w W)=>un_of L U hlen 12 e ⟨none,0,[]⟩ W hk (he.later hW) (hL.later hW) (hU.later hW) (Rd.nil _ _ _ _) Zs);obtain ⟨X,hX⟩ : ∃ X,unU L.l U.l 12 e=X:=⟨_,rfl⟩;rw [hX] at HO ⊢;clear hX he hL hU hlen hk;obtain ⟨o,n,u,s,A,c,l⟩:=e;simp only [ScV,PT.v] at HO ⊢;go_enter_defers Tryz.func56,Tryz.ntmps56;go_wp2_with fail;have HB : Hid (Below w.heap.size w ((((w.alloc (.cells #[.slice L.A L.l.length L.c,.slice U.A U.l.length U.c] 102)).alloc (.cells #[.int .i64 o,.int .i64 n,.int .i64 u,.string s,.slice A l.length c] 25)).alloc (.cells #[.int .i64 0] 3)).alloc (.cells #[.slice none 0 0,.int .i64 0] 99))):=Zh qbl;have HP : Hid (Blk ((((w.alloc (.cells #[.slice L.A L.l.length L.c,.slice U.A U.l.length U.c] 102)).alloc (.cells #[.int .i64 o,.int .i64 n,.int .i64 u,.string s,.slice A l.length c] 25)).alloc (.cells #[.int .i64 0] 3)).alloc (.cells #[.slice none 0 0,.int .i64 0] 99)) (w.heap.size+1+1) 3 #[.int .i64 0]):=Zh ((Blk.new' Zs).alloc _);have HQ : Hid (Blk ((((w.alloc (.cells #[.slice L.A L.l.length L.c,.slice U.A U.l.length U.c] 102)).alloc (.cells #[.int .i64 o,.int .i64 n,.int .i64 u,.string s,.slice A l.length c] 25)).alloc (.cells #[.int .i64 0] 3)).alloc (.cells #[.slice none 0 0,.int .i64 0] 99)) (w.heap.size+1+1+1) 99 #[.slice none 0 0,.int .i64 0]):=Zh (Blk.new' Zs);generalize (((w.alloc (.cells #[.slice L.A L.l.length L.c,.slice U.A U.l.length U.c] 102)).alloc (.cells #[.int .i64 o,.int .i64 n,.int .i64 u,.string s,.slice A l.length c] 25)).alloc (.cells #[.int .i64 0] 3)).alloc (.cells #[.slice none 0 0,.int .i64 0] 99)=w1 at *;refine (HO.out w1 HB.out).mono ?_;rintro e w2 ⟨hu,hb2⟩;have HB2:=Zt HB hb2;have HP2:=Zh (HP.out.later hb2);have HQ2:=Zh (HQ.out.later hb2);clear HP HQ HO hb2;rcases hu with ⟨hx,rfl⟩ | ⟨hx,RA,rn,rc,rfl⟩
 ·obtain ⟨p0,pf,pz⟩:=HP2.out.b1;obtain ⟨q0,q1,qf,qz⟩:=HQ2.out.b2;have HX:=Zh hx;clear hx;go_wp2_with fail;refine leaves_cons (f:=105) (args:=#[.pointer (some ⟨w.heap.size+1+1,0,none⟩),.pointer (some ⟨w.heap.size+1+1+1,0,none⟩)]) Zs (by simp [go_sem]) ?_;refine (un_catch_idle _ _ _).mono ?_;rintro e u' w3 ⟨rfl,rfl,rfl⟩;simp [Leaves,settle,results,Tryz.results56,go_sem,q0,q1,p0];exact ⟨⟨none,0,0,by rw [if_pos HX.out,HX.out]⟩,((HB2.out.setCell (by simp; omega) _).setCell (by simp; omega) _).setCell (by simp; omega) _⟩
 ·have HX:=Zh hx;clear hx;go_wp2_with fail;refine leaves_cons (f:=105) (args:=#[.pointer (some ⟨w.heap.size+1+1,0,none⟩),.pointer (some ⟨w.heap.size+1+1+1,0,none⟩)]) Zs (by simp [go_sem]) ?_;refine (un_catch (w.heap.size+1+1) (w.heap.size+1+1+1) Zo w.heap.size Zo Zo RA rn rc X.2 [] _ _ _ _ HP2.out HQ2.out).mono ?_;rintro e u' w3 ⟨rfl,rfl,hp3,hq3,hb3⟩;obtain ⟨p0,pf,pz⟩:=hp3.b1;obtain ⟨q0,q1,qf,qz⟩:=hq3.b2;have HB3:=Zh (HB2.out.trans hb3);clear hp3 hq3 hb3;simp [Leaves,settle,results,Tryz.results56,go_sem,q0,q1,p0];exact ⟨⟨RA,rn,rc,by rw [if_neg HX.out]⟩,HB3.out⟩
theorem LT.enc_k : ∀ x : LT,x.enc.length=6 | ⟨_,⟨_,_,_,_,_,_,_⟩⟩=>rfl
theorem LT.enc_one : ∀ x : LT,∀ u ∈ x.enc,u.oneCell'=true
 | ⟨nm,⟨o,n,u,s,A,c,l⟩⟩,v,hv=>by
  simp only [LT.enc,PT.enc,List.mem_cons,List.not_mem_nil,or_false] at hv;rcases hv with rfl | rfl | rfl | rfl | rfl | rfl <;> rfl
theorem infoLet : Info Tryz.prog 50 (.agg #[.string ByteArray.empty,.int .i64 0,.int .i64 0,.int .i64 0,.string ByteArray.empty,.slice none 0 0]) 6 80:=info_mk Zy rfl
def uo (x : Int × Int) : Int:=if x.2=0 then x.1 else -1
def scN (L : List LT) : Nat→List Int
  | 0=>[]
  | k+1=>match L[k]? with
    | some x=>scN L k ++ [uo (unU (L.take k) (scN L k) 12 x.b)]
    | none=>scN L k
def scU (L : List LT) : List Int:=scN L L.length
theorem scN_succ {L : List LT} {k : Nat} {x : LT} (h : L[k]? = some x) : scN L (k+1)=scN L k ++ [uo (unU (L.take k) (scN L k) 12 x.b)]:=by
 (conv=>lhs; unfold scN);rw [h]
theorem scN_len (L : List LT) : ∀ k,k≤L.length→(scN L k).length=k
 | 0,_=>rfl
 | k+1,h=>by
  rw [scN_succ (List.getElem?_eq_getElem Zo),List.length_append,scN_len L k Zo];rfl
theorem rd_one6 {W : World} {g : Nat} {t : TypeId} {x : LT} (h : Blk W g t x.enc.toArray) : Rd (· < W.heap.size) 6 LT.enc W ⟨some ⟨g,0,none⟩,1,[x]⟩ :=
 ⟨Nat.le_refl _,by unfold maxLen; simp,fun h=>by simp at h,fun i y hy=>by
  have hi : i=0:=by
   rcases i with _ | i
   ·rfl
   ·simp at hy
  subst hi;(have hxy : x=y:=by simpa using hy);subst hxy
  exact ⟨g,0,rfl,h.lt,fun j u hu=>by
   rw [Nat.zero_mul,Nat.add_zero,Nat.zero_add,h.cell];simpa using hu⟩⟩
theorem own_apart {α β : Type} {B : Nat} {e e' : TypeId} {k k' : Nat} {enc : α→List Value} {enc' : β→List Value} {w : World} {s : Sl α} {s' : Sl β} (h : Own B e k enc w s) (h' : Own B e' k' enc' w s') (hne : e≠e') {g : Nat} (hg : s.A=some ⟨g,0,none⟩) : (Value.slice s'.A s'.l.length s'.c).ownBlock≠some g:=by
 intro hc;unfold Own at h h';rcases h.2 with ⟨hv,_⟩ | ⟨g1,cap,cur,hv,hb,hh,_⟩
 ·injection hv with h1; rw [hg] at h1; cases h1
 rcases h'.2 with ⟨hv',_⟩ | ⟨g2,cap',cur',hv',hb',hh',_⟩
 ·injection hv' with h1; rw [h1] at hc; simp [Value.ownBlock] at hc
 injection hv with h1; rw [hg] at h1; injection h1 with h1; injection h1 with h1;injection hv' with h2; rw [h2] at hc; simp only [Value.ownBlock] at hc; injection hc with hc;rw [← h1] at hh; rw [hc,hh] at hh';injection hh' with hh'; injection hh' with _ h3;exact hne h3
structure ScS (B : Nat) (w : World) (g0 g gl : Nat) (cs : Array Value) (x : LT) (ls : Sl LT) (us : Sl Int) (W : World) : Prop where
  own : Own B 50 6 LT.enc W ls
  ous : Own B 3 1 ienc W us
  b0 : Blk W g0 102 #[.slice none 0 0,.slice none 0 0]
  b1 : Blk W g 102 cs
  bx : Blk W gl 50 x.enc.toArray
  ap : ∀ h,ls.A=some ⟨h,0,none⟩→h≠gl
  lo : g0<B∧g<B
  ge : w.heap.size≤g0∧w.heap.size≤g∧B≤W.heap.size
  bel : Below w.heap.size w W
section
variable {B : Nat} {w : World} {g0 g gl : Nat} {cs : Array Value} {x : LT} {ls : Sl LT} {us : Sl Int} {W W' : World}
theorem ScS.drew (h : ScS B w g0 g gl cs x ls us W) : ScS B w g0 g gl cs x ls us W.drew:=⟨h.own,h.ous,h.b0,h.b1,h.bx,h.ap,h.lo,h.ge,h.bel.drew⟩
theorem ScS.alloc (h : ScS B w g0 g gl cs x ls us W) (o : Obj) : ScS B w g0 g gl cs x ls us (W.alloc o) :=
 ⟨h.own.alloc o,h.ous.alloc o,h.b0.alloc o,h.b1.alloc o,h.bx.alloc o,h.ap,h.lo,⟨h.ge.1,h.ge.2.1,by have:=h.ge.2.2; simp; omega⟩,h.bel.alloc (Nat.le_trans h.ge.1 (by have:=h.ge.2.2; have:=h.lo.1; omega)) o⟩
theorem ScS.cells (h : ScS B w g0 g gl #[.slice ls.A ls.l.length ls.c,.slice us.A us.l.length us.c] x ls us W) : True:=trivial
theorem own_addr {α : Type} {e : TypeId} {k : Nat} {enc : α→List Value} {s : Sl α} (h : Own B e k enc W s) : ∀ n,(Value.slice s.A s.l.length s.c).ownBlock=some n→s.A=some ⟨n,0,none⟩:=by
 intro n hn;rcases h.form with ⟨hA,_⟩ | ⟨g',hA,h1,h2,_⟩
 ·rw [hA] at hn; simp [Value.ownBlock] at hn
 ·rw [hA] at hn ⊢; simp only [Value.ownBlock] at hn; injection hn with hn; rw [hn]
theorem ScS.letApp (h : ScS B w g0 g gl cs x ls us W) {A : Option Addr} {c : Nat} (ho : Own B 50 6 LT.enc W' ⟨A,c,ls.l ++ [x]⟩) (hg : W.grownBy W' (Value.slice ls.A ls.l.length ls.c).ownBlock) (hA : A=ls.A∨A=some ⟨W.heap.size,0,none⟩) : ScS B w g0 g gl cs x ⟨A,c,ls.l ++ [x]⟩ us W':=by
 have hge:=own_row_ge h.own;have hge0:=h.ge;have hlo:=h.lo;(have hne : ∀ n,n<B→some n≠(Value.slice ls.A ls.l.length ls.c).ownBlock:=fun n hn hc=>by have:=hge n hc.symm; omega);refine ⟨ho, ?_,h.b0.grown hg (hne _ h.lo.1),h.b1.grown hg (hne _ h.lo.2),h.bx.grown hg (fun hc=>h.ap _ (own_addr h.own _ hc.symm) rfl), ?_,h.lo,⟨h.ge.1,h.ge.2.1,Nat.le_trans h.ge.2.2 hg.size⟩,h.bel.grown hg Zo (fun k hk=>by have:=hge k hk; omega)⟩
 ·refine h.ous.kept hg ?_;rcases hr : (Value.slice ls.A ls.l.length ls.c).ownBlock with _ | n
  ·rcases hu : (Value.slice us.A us.l.length us.c).ownBlock with _ | m
   ·exact .inl rfl
   ·exact .inr Zs
  ·exact .inr (own_apart h.own h.ous (by decide) (own_addr h.own n hr))
 ·intro k hk;have hb:=h.bx.lt;rcases hA with hA | hA
  ·exact h.ap k (hA ▸ hk)
  ·rw [hA] at hk; injection hk with hk; injection hk with hk; omega
theorem ScS.unitApp (h : ScS B w g0 g gl cs x ls us W) {A : Option Addr} {c : Nat} {u : Int} (ho : Own B 3 1 ienc W' ⟨A,c,us.l ++ [u]⟩) (hg : W.grownBy W' (Value.slice us.A us.l.length us.c).ownBlock) (hA : A=us.A∨A=some ⟨W.heap.size,0,none⟩) : ScS B w g0 g gl cs x ls ⟨A,c,us.l ++ [u]⟩ W':=by
 have hge:=own_row_ge h.ous;have hge0:=h.ge;have hlo:=h.lo;(have hne : ∀ n,n<B→some n≠(Value.slice us.A us.l.length us.c).ownBlock:=fun n hn hc=>by have:=hge n hc.symm; omega);refine ⟨?_,ho,h.b0.grown hg (hne _ h.lo.1),h.b1.grown hg (hne _ h.lo.2),h.bx.grown hg (fun hc=>?_),h.ap,h.lo,⟨h.ge.1,h.ge.2.1,Nat.le_trans h.ge.2.2 hg.size⟩,h.bel.grown hg Zo (fun k hk=>by have:=hge k hk; omega)⟩
 ·refine h.own.kept hg ?_;rcases hr : (Value.slice us.A us.l.length us.c).ownBlock with _ | n
  ·rcases hu : (Value.slice ls.A ls.l.length ls.c).ownBlock with _ | m
   ·exact .inl rfl
   ·exact .inr Zs
  ·exact .inr (own_apart h.ous h.own (by decide) (own_addr h.ous n hr))
 ·have hb:=h.bx;have ho2:=h.ous;unfold Own at ho2;rcases ho2.2 with ⟨hv,_⟩ | ⟨g2,cap,cur,hv,_,hh,_⟩
  ·injection hv with h1; rw [h1] at hc; simp [Value.ownBlock] at hc
  ·injection hv with h1; rw [h1] at hc; simp only [Value.ownBlock] at hc; injection hc with hc;unfold Blk at hb;rw [hc,hh] at hb;injection hb with hb; injection hb with _ h3;exact absurd h3 (by decide)
end
end Go.Proofs.YtcgocdhhneckhaaGreatDoor
