/- Walk: units.unit: a panic with a reason is recovered. -/
import Derived.Test.YtcgocdhhneckhaaGreatDoorEvbxaw
import Derived.Recover
set_option linter.unusedSimpArgs false
set_option linter.unusedVariables false
set_option maxRecDepth 100000
set_option maxHeartbeats 6400000
namespace Go.Proofs.YtcgocdhhneckhaaGreatDoor
open Go.RowKit
def rsnV (A : Option Addr) (n c : Nat) (en : Int) : Value:=.iface 99 (.agg #[.slice A n c,.int .i64 en])
theorem un_catch_idle (p q : Addr) (w : World) : CallsD Tryz.prog 105 #[.pointer (some p),.pointer (some q)] .returning w fun e u' w'=>e = .returned (.tuple #[])∧u' = .returning∧w'=w:=by
 refine callsD_of_wpS Tryz.func105 rfl fun c₀ cs hu=>?_;apply wpS_seq;apply wpS_region;simp [wpOpsS,go_sem,recoverD,hu,Tryz.ntmps105,Exit.thenS];refine wpS_of_wp ?_;generalize htm : (#[Value.pointer (some p),Value.pointer (some q)] ++ ((Array.replicate 6 undef).setIfInBounds 1 Value.nilIface).setIfInBounds 0 Value.nilIface)=tm;(have htm2 : tm = #[.pointer (some p),.pointer (some q),.nilIface,.nilIface,undef,undef,undef,undef]:=by rw [← htm]; rfl);subst htm2;clear htm;go_wp2_with fail;exact ⟨rfl,.returning,by rw [← hu],_,by simp [results,Tryz.results105,go_sem],rfl,rfl,rfl⟩
theorem un_catch (p q : Nat) (hpq : p≠q) (B : Nat) (hBp : B≤p) (hBq : B≤q) (A : Option Addr) (n c : Nat) (en : Int) (older : List PanicEntry) (w : World) (x y z : Value) (hp : Blk w p 3 #[x]) (hq : Blk w q 99 #[y,z]) : CallsD Tryz.prog 105 #[.pointer (some ⟨p,0,none⟩),.pointer (some ⟨q,0,none⟩)] (.panicking ({ v:=rsnV A n c en,recovered:=false } :: older)) w fun e u' w' =>
 e = .returned (.tuple #[])∧u' = .panicking ({ v:=rsnV A n c en,recovered:=true } :: older)∧Blk w' p 3 #[.int .i64 0]∧Blk w' q 99 #[.slice A n c,.int .i64 en]∧Below B w w':=by
 unfold rsnV
 refine callsD_of_wpS Tryz.func105 rfl fun c₀ cs hu=>?_
 apply wpS_seq
 apply wpS_region
 simp [wpOpsS,go_sem,recoverD,hu,Tryz.ntmps105,Exit.thenS]
 refine wpS_of_wp ?_
 generalize htm : (#[Value.pointer (some ⟨p,0,none⟩),Value.pointer (some ⟨q,0,none⟩)] ++ ((Array.replicate 6 undef).setIfInBounds 1 (Value.iface 99 (Value.agg #[Value.slice A n c,Value.int IntKind.i64 en]))).setIfInBounds 0 (Value.iface 99 (Value.agg #[Value.slice A n c,Value.int IntKind.i64 en])))=tm
 have htm2 : tm = #[.pointer (some ⟨p,0,none⟩),.pointer (some ⟨q,0,none⟩),(Value.iface 99 (Value.agg #[Value.slice A n c,Value.int IntKind.i64 en])),(Value.iface 99 (Value.agg #[Value.slice A n c,Value.int IntKind.i64 en])),undef,undef,undef,undef]:=by rw [← htm]; rfl
 subst htm2
 clear htm
 have HP:=Zh hp
 have HQ:=Zh hq
 obtain ⟨p0,pf,pz⟩:=hp.b1
 obtain ⟨q0,q1,qf,qz⟩:=hq.b2
 clear hp hq hu
 go_wp2_with fail
 have hta : ∀ (w : World),(Instr.typeAssert (Value.iface 99 (Value.agg #[Value.slice A n c,Value.int IntKind.i64 en])) 20 99 false).run Tryz.prog w = .ok (Value.agg #[Value.slice A n c,Value.int IntKind.i64 en]) w:=fun _=>by kernel_rfl
 refine wp_region_T (fun W=>True) (fun _=>false) Zy trivial (fun hHeld=>?_)
 refine Zr 0 ?_
 clear hHeld
 have hHeld : True:=trivial
 refine wpAnyT_take2 (i:=1) (v:=Value.agg #[Value.slice A n c,Value.int IntKind.i64 en]) rfl rfl Zy Zy Zy Zy (fun _ _ _ h=>h) (Or.inl ⟨by rfl, ?_⟩) (by first | assumption | trivial) ?_
 ·(intro w hSw; (try dsimp only at hSw); go_simp) <;> (first | (with_reducible rfl) | assumption | (simp; done) | (simp [*]; done) | (simp; omega))
 simp only [qsa,qsb,qsc]
 refine Zn 2 ?_
 go_wp2_with fail
 refine Zn 3 ?_
 go_wp2_with fail
 refine Ze ?_
 go_wp2_with fail
 refine ⟨rfl,_,rfl,_,by simp [results,Tryz.results105,go_sem],rfl,rfl, ?_, ?_, ?_⟩
 ·exact Blk.drew (by simpa using ((HP.out.set_ 0 (.int .i64 0)).far hpq (.slice A n c)).far hpq (.int .i64 en))
 ·exact Blk.drew (by simpa using ((HQ.out.far (Ne.symm hpq) (.int .i64 0)).set_ 0 (.slice A n c)).set_ 1 (.int .i64 en))
 ·exact Below.drew ((((Below.refl B w).setCell hBp _).setCell hBq _).setCell hBq _)
def UnitP (w w' : World) (x : Int × Int) (r : Ending) : Prop:=(∃ (A : Option Addr) (n c : Nat),r = .returned (.tuple #[.int .i64 (if x.2=0 then x.1 else 0),.agg #[.slice A n c,.int .i64 x.2]]))∧Below w.heap.size w w'
theorem un_unit (L : Sl LT) (U : Sl Int) (e : PT) (w : World) (hk : rexp e=true) (he : PT.At (· < w.heap.size) w e) (hL : LetsAt (· < w.heap.size) w L) (hU : Rd (· < w.heap.size) 1 ienc w U) (hlen : U.l.length=L.l.length) : Calls Tryz.prog 56 #[ScV L U,e.v] w fun r w'=>UnitP w w' (unU L.l U.l 12 e) r:=by
 have hmf : ∀ (fn : Fn) (first cap : Array Value) (w : World),(Instr.makeFunc fn first cap).run Tryz.prog w = .ok (.func fn first cap) w:=fun _ _ _ _=>rfl;have HO:=Zh (fun W (hW : Below w.heap.size w W)=>un_of L U hlen 12 e ⟨none,0,[]⟩ W hk (he.later hW) (hL.later hW) (hU.later hW) (Rd.nil _ _ _ _) Zs);obtain ⟨X,hX⟩ : ∃ X,unU L.l U.l 12 e=X:=⟨_,rfl⟩;rw [hX] at HO ⊢;clear hX he hL hU hlen hk;obtain ⟨o,n,u,s,A,c,l⟩:=e;simp only [ScV,PT.v] at HO ⊢;go_enter_defers Tryz.func56,Tryz.ntmps56;go_wp2_with fail;have HB : Hid (Below w.heap.size w ((((w.alloc (.cells #[.slice L.A L.l.length L.c,.slice U.A U.l.length U.c] 102)).alloc (.cells #[.int .i64 o,.int .i64 n,.int .i64 u,.string s,.slice A l.length c] 25)).alloc (.cells #[.int .i64 0] 3)).alloc (.cells #[.slice none 0 0,.int .i64 0] 99))):=Zh qbl;have HP : Hid (Blk ((((w.alloc (.cells #[.slice L.A L.l.length L.c,.slice U.A U.l.length U.c] 102)).alloc (.cells #[.int .i64 o,.int .i64 n,.int .i64 u,.string s,.slice A l.length c] 25)).alloc (.cells #[.int .i64 0] 3)).alloc (.cells #[.slice none 0 0,.int .i64 0] 99)) (w.heap.size+1+1) 3 #[.int .i64 0]):=Zh ((Blk.new' Zs).alloc _);have HQ : Hid (Blk ((((w.alloc (.cells #[.slice L.A L.l.length L.c,.slice U.A U.l.length U.c] 102)).alloc (.cells #[.int .i64 o,.int .i64 n,.int .i64 u,.string s,.slice A l.length c] 25)).alloc (.cells #[.int .i64 0] 3)).alloc (.cells #[.slice none 0 0,.int .i64 0] 99)) (w.heap.size+1+1+1) 99 #[.slice none 0 0,.int .i64 0]):=Zh (Blk.new' Zs);generalize (((w.alloc (.cells #[.slice L.A L.l.length L.c,.slice U.A U.l.length U.c] 102)).alloc (.cells #[.int .i64 o,.int .i64 n,.int .i64 u,.string s,.slice A l.length c] 25)).alloc (.cells #[.int .i64 0] 3)).alloc (.cells #[.slice none 0 0,.int .i64 0] 99)=w1 at *;refine (HO.out w1 HB.out).mono ?_;rintro e w2 ⟨hu,hb2⟩;have HB2:=Zt HB hb2;have HP2:=Zh (HP.out.later hb2);have HQ2:=Zh (HQ.out.later hb2);clear HP HQ HO hb2;rcases hu with ⟨hx,rfl⟩ | ⟨hx,RA,rn,rc,rfl⟩
 ·obtain ⟨p0,pf,pz⟩:=HP2.out.b1;obtain ⟨q0,q1,qf,qz⟩:=HQ2.out.b2;have HX:=Zh hx;clear hx;go_wp2_with fail;refine leaves_cons (f:=105) (args:=#[.pointer (some ⟨w.heap.size+1+1,0,none⟩),.pointer (some ⟨w.heap.size+1+1+1,0,none⟩)]) Zs (by simp [go_sem]) ?_;refine (un_catch_idle _ _ _).mono ?_;rintro e u' w3 ⟨rfl,rfl,rfl⟩;simp [Leaves,settle,results,Tryz.results56,go_sem,q0,q1,p0];exact ⟨⟨none,0,0,by rw [if_pos HX.out,HX.out]⟩,((HB2.out.setCell (by simp; omega) _).setCell (by simp; omega) _).setCell (by simp; omega) _⟩
 ·have HX:=Zh hx;clear hx;go_wp2_with fail;refine leaves_cons (f:=105) (args:=#[.pointer (some ⟨w.heap.size+1+1,0,none⟩),.pointer (some ⟨w.heap.size+1+1+1,0,none⟩)]) Zs (by simp [go_sem]) ?_;refine (un_catch (w.heap.size+1+1) (w.heap.size+1+1+1) Zo w.heap.size Zo Zo RA rn rc X.2 [] _ _ _ _ HP2.out HQ2.out).mono ?_;rintro e u' w3 ⟨rfl,rfl,hp3,hq3,hb3⟩;obtain ⟨p0,pf,pz⟩:=hp3.b1;obtain ⟨q0,q1,qf,qz⟩:=hq3.b2;have HB3:=Zh (HB2.out.trans hb3);clear hp3 hq3 hb3;simp [Leaves,settle,results,Tryz.results56,go_sem,q0,q1,p0];exact ⟨⟨RA,rn,rc,by rw [if_neg HX.out]⟩,HB3.out⟩
end Go.Proofs.YtcgocdhhneckhaaGreatDoor
