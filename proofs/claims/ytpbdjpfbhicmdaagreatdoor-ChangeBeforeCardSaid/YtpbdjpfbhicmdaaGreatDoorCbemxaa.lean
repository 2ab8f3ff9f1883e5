/- The plain law of change.Adopt: what holds where it adds a version. -/
import Derived.Test.YtpbdjpfbhicmdaaGreatDoorCbxbo
set_option linter.unusedSimpArgs false
set_option linter.unusedVariables false
set_option maxRecDepth 100000
set_option maxHeartbeats 6400000
namespace Go.Proofs.YtpbdjpfbhicmdaaGreatDoor
open Go.RowKit
theorem rgtL_parts {nm : Option ByteArray} {last : Int} {v : VR} {r : List VR} (h : rgtL nm last (v :: r)=true) : (parV v).2=0∧timeB v.f=true∧last<v.f∧nameO nm (parV v).1.name=true∧rgtL (some (parV v).1.name) v.f r=true:=by
  rw [rgtL] at h
  simp only [Bool.and_eq_true,decide_eq_true_eq] at h
  exact ⟨h.1,h.2.1,h.2.2.1,h.2.2.2.1,h.2.2.2.2⟩
theorem rgtL_names : ∀ {l : List VR} {n : ByteArray} {last : Int},rgtL (some n) last l=true→∀ x,x ∈ l→(parV x).1.name=n
  | [],_,_,_,x,hx=>by cases hx
  | v :: r,n,last,h,x,hx=>by
    obtain ⟨_,_,_,h4,h5⟩:=rgtL_parts h
    have hv : (parV v).1.name=n:=by simpa [nameO] using h4
    rcases List.mem_cons.1 hx with rfl | hx
    · exact hv
    · rw [rgtL_names h5 x hx,hv]
theorem rgtL_above : ∀ {l : List VR} {nm : Option ByteArray} {last : Int},rgtL nm last l=true→∀ x,x ∈ l→last<x.f
  | [],_,_,_,x,hx=>by cases hx
  | v :: r,n,last,h,x,hx=>by
    obtain ⟨_,_,h3,_,h5⟩:=rgtL_parts h
    rcases List.mem_cons.1 hx with rfl | hx
    · exact h3
    · have:=rgtL_above h5 x hx; omega
theorem rgtL_last_le : ∀ {l : List VR} {nm : Option ByteArray} {last : Int} (d : VR),rgtL nm last l=true→∀ x,x ∈ l→x.f≤(l.getLastD d).f
  | [],_,_,_,_,x,hx=>by cases hx
  | [v],_,_,d,h,x,hx=>by
    simp only [List.mem_singleton] at hx
    subst hx
    exact Int.le_refl _
  | v :: u :: r,n,last,d,h,x,hx=>by
    obtain ⟨_,_,_,_,h5⟩:=rgtL_parts h
    have e : (v :: u :: r).getLastD d=(u :: r).getLastD d:=rfl
    rw [e]
    have ih:=rgtL_last_le d h5
    rcases List.mem_cons.1 hx with rfl | hx
    · have h1:=rgtL_above h5 u (by simp)
      have h2:=ih u (by simp)
      omega
    · exact ih x hx
theorem rgtL_snoc : ∀ {l : List VR} {nm : Option ByteArray} {last : Int} {v : VR} (d : VR),rgtL nm last l=true→l≠[]→(parV v).2=0→timeB v.f=true→(l.getLastD d).f<v.f→(parV v).1.name=(parV (l.getLastD d)).1.name→rgtL nm last (l ++ [v])=true
  | [],_,_,_,_,_,hne,_,_,_,_=>absurd rfl hne
  | [u],nm,last,v,d,h,_,h0,h1,h2,h3=>by
    obtain ⟨a1,a2,a3,a4,_⟩:=rgtL_parts h
    show rgtL nm last (u :: [v])=true
    have h2 : u.f<v.f:=h2
    have h3 : (parV v).1.name=(parV u).1.name:=h3
    rw [rgtL_go a1 a2 a3 a4,rgtL_go h0 h1 h2 (by unfold nameO; exact decide_eq_true h3)]
    rfl
  | u :: t :: r,nm,last,v,d,h,_,h0,h1,h2,h3=>by
    obtain ⟨a1,a2,a3,a4,a5⟩:=rgtL_parts h
    show rgtL nm last (u :: ((t :: r) ++ [v]))=true
    rw [rgtL_go a1 a2 a3 a4]
    exact rgtL_snoc d a5 (by simp) h0 h1 h2 h3
theorem right_parts {l : List VR} (h : rightC l=true) : rgtL none (-1) l=true∧1≤l.length∧l.length≤100:=by
  unfold rightC at h
  simp only [Bool.and_eq_true,decide_eq_true_eq] at h
  exact h
theorem getLast_mem {l : List VR} (d : VR) (h : l≠[]) : l.getLastD d ∈ l:=by
  rw [List.getLastD_eq_getLast?,List.getLast?_eq_some_getLast h]
  exact List.getLast_mem h
theorem last_name {l : List VR} (h : rightC l=true) (d e : VR) : (parV (l.getLastD d)).1.name=(parV (l.headD e)).1.name:=by
  obtain ⟨h1,h2,_⟩:=right_parts h
  rcases l with _ | ⟨v,r⟩
  · simp at h2
  · obtain ⟨_,_,_,_,h5⟩:=rgtL_parts h1
    rcases r with _ | ⟨u,r⟩
    · rfl
    · show (parV ((u :: r).getLastD d)).1.name=(parV v).1.name
      exact rgtL_names h5 _ (getLast_mem d (by simp))
structure Added (l : List VR) (t : ByteArray) (f : Int) : Prop where
  right : rightC l=true
  par : (parC t.data.toList).2=0
  name : (parC t.data.toList).1.name=(parC (l.headD ⟨0,⟨#[]⟩⟩).t.data.toList).1.name
  time : timeB f=true
  last : (l.getLastD ⟨0,⟨#[]⟩⟩).f<f
  len : l.length≤99
theorem adoE_zero {l : List VR} {t : ByteArray} {f : Int} (h : adoE l t f=0) : Added l t f:=by
  unfold adoE at h
  by_cases h1 : rightC l=false
  · rw [if_pos h1] at h; omega
  rw [if_neg h1] at h
  by_cases h2 : timeB f=false
  · rw [if_pos h2] at h; omega
  rw [if_neg h2] at h
  by_cases h3 : (parC t.data.toList).2≠0
  · rw [if_pos h3] at h; exact absurd h h3
  rw [if_neg h3] at h
  by_cases h4 : (parC t.data.toList).1.name≠(parC (l.headD ⟨0,⟨#[]⟩⟩).t.data.toList).1.name
  · rw [if_pos h4] at h; omega
  rw [if_neg h4] at h
  by_cases h5 : f≤(l.getLastD ⟨0,⟨#[]⟩⟩).f
  · rw [if_pos h5] at h; omega
  rw [if_neg h5] at h
  by_cases h6 : l.length=100
  · rw [if_pos h6] at h; omega
  have hr : rightC l=true:=by simpa using h1
  exact ⟨hr,Classical.byContradiction h3,Classical.byContradiction h4,by simpa using h2,by omega,by have:=(right_len hr).2; omega⟩
section
variable {l : List VR} {t : ByteArray} {f : Int}
theorem Added.both (h : Added l t f) : rightC (l ++ [⟨f,t⟩])=true:=by
  obtain ⟨h1,h2,_⟩:=right_parts h.right
  have hn:=last_name h.right ⟨0,⟨#[]⟩⟩ ⟨0,⟨#[]⟩⟩
  have hs:=rgtL_snoc (v:=⟨f,t⟩) ⟨0,⟨#[]⟩⟩ h1 (fun e=>by rw [e] at h2; simp at h2) h.par h.time h.last (h.name.trans hn.symm)
  unfold rightC
  rw [hs]
  have:=h.len
  simp only [List.length_append,List.length_cons,List.length_nil,Bool.true_and,Bool.and_eq_true,decide_eq_true_eq]
  omega
theorem Added.code (h : Added l t f) : (parsB t.data.toList).2.2=0∧chkS ((parsB t.data.toList).1.getD bsZ)=0:=by
  have hp:=h.par
  rw [parC_is] at hp
  simp only at hp
  by_cases h0 : (parsB t.data.toList).2.2=0
  · rw [if_pos h0] at hp; exact ⟨h0,hp⟩
  · rw [if_neg h0] at hp; exact absurd hp h0
theorem parC_name (l : List UInt8) : (parC l).1.name=((parsB l).1.getD bsZ).name:=by rw [parC_is]
theorem Added.at_ (h : Added l t f) (a : Int) : atC (l ++ [⟨f,t⟩]) a=if f≤a then (l.length : Int) else atC l a:=by
  obtain ⟨k,hk,e,h1,h2⟩:=atC_right h.both a
  have hlen : (l ++ [(⟨f,t⟩ : VR)]).length=l.length+1:=by simp
  have hend : (l ++ [(⟨f,t⟩ : VR)])[l.length]? = some ⟨f,t⟩:=by simp
  have hin : ∀ j x,j<l.length→((l ++ [(⟨f,t⟩ : VR)])[j]? = some x↔l[j]? = some x):=fun j x hj=>by rw [List.getElem?_append_left hj]
  rw [hlen] at hk
  rw [e]
  by_cases hfa : f≤a
  · rw [if_pos hfa]
    have hkl : k=l.length+1:=by
      rcases Nat.lt_trichotomy k l.length with hlt | heq | hgt
      · exfalso
        have hx:=List.getElem?_eq_getElem hlt
        have h3:=h2 _ ((hin k _ hlt).2 hx)
        have h4:=rgtL_last_le ⟨0,⟨#[]⟩⟩ (right_parts h.right).1 _ (List.getElem_mem hlt)
        have:=h.last
        omega
      · exfalso
        have h3:=h2 _ (by rw [heq]; exact hend)
        simp only at h3
        omega
      · omega
    omega
  · rw [if_neg hfa]
    obtain ⟨m,hm,e',h3,h4⟩:=atC_right h.right a
    rw [e']
    have hmk : m=k:=by
      rcases Nat.lt_trichotomy m k with hlt | heq | hgt
      · exfalso
        by_cases hml : m<l.length
        · have hx:=List.getElem?_eq_getElem hml
          have h5:=h4 _ hx
          have h6:=h1 m _ hlt ((hin m _ hml).2 hx)
          omega
        · have hme : m=l.length:=by omega
          have h6:=h1 l.length ⟨f,t⟩ (by omega) hend
          simp only at h6
          omega
      · exact heq
      · exfalso
        have hkl : k<l.length:=by omega
        have hx:=List.getElem?_eq_getElem hkl
        have h5:=h2 _ ((hin k _ hkl).2 hx)
        have h6:=h3 k _ hgt hx
        omega
    omega
end
end Go.Proofs.YtpbdjpfbhicmdaaGreatDoor
