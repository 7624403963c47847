/- What the reference's Read of a block says, plain. -/
import Derived.Test.YtjanaholcjkceaaGreatZ41
namespace Go.Proofs.YtjanaholcjkceaaGreat
set_option linter.unusedVariables false
set_option linter.unusedSimpArgs false
open Go.RowKit
theorem hdSaid_fun {s:Bytes} {h u:Hd} {n m:Nat} (h1:HdSaid s h n) (h2:HdSaid s u m):h=u∧n=m:=by
 rcases h1 with ⟨rfl,a1,a2,a3⟩ | ⟨rfl,rfl,a1⟩ <;> rcases h2 with ⟨rfl,b1,b2,b3⟩ | ⟨rfl,rfl,b1⟩
 ·exact ⟨hdB_inj a1 a2 b1 b2 (a3.symm.trans b3),rfl⟩
 ·exact absurd a3 (b1 _ a1 a2)
 ·exact absurd b3 (a1 _ b1 b2)
 ·exact ⟨rfl,rfl⟩
theorem trSaid_fun {s:Bytes} {h u:Tr} {n m:Nat} (h1:TrSaid s h n) (h2:TrSaid s u m):h=u∧n=m:=by
 rcases h1 with ⟨rfl,a1,a2,a3⟩ | ⟨rfl,rfl,a1⟩ <;> rcases h2 with ⟨rfl,b1,b2,b3⟩ | ⟨rfl,rfl,b1⟩
 ·exact ⟨trB_inj a1 a2 b1 b2 (a3.symm.trans b3),rfl⟩
 ·exact absurd a3 (b1 _ a1 a2)
 ·exact absurd b3 (a1 _ b1 b2)
 ·exact ⟨rfl,rfl⟩
theorem trSaid_fine {s:Bytes} {t:Tr} {n:Nat} (h:TrSaid s t n):t.Fine:=by
 rcases h with ⟨_,h1,h2,_⟩ | ⟨_,rfl,_⟩
 ·exact ⟨h2,by unfold okTr at h1;simp only [Bool.and_eq_true,beq_iff_eq] at h1;omega⟩
 ·exact ⟨zeroTr_wf,Nat.zero_le _⟩
/-- what the reference has read of a block, i transfers of it -/
structure BrPre (x:Item) (k0:Item) (i:Nat) (h:Hd) (ts:List Tr) (f:Nat):Prop where
 len:ts.length=i
 fine:∀ t∈ts,t.Fine
 good:f=0→HdSaid k0.b h 0∧∀ j k,j < i→x.ks[j+1]? = some k→∃ t,ts[j]? = some t∧TrSaid k.b t 0
 bad:f≠0→(∀ u,OkHd u→u.Wf→k0.b≠hdB u)∨∃ j k,x.ks[j+1]? = some k∧∀ u,okTr u=true→u.Wf→k.b≠trB u
theorem brPre_zero {x k0:Item} {h:Hd} {n:Nat} (hs:HdSaid k0.b h n):BrPre x k0 0 h [] n:=by
 refine ⟨rfl,(fun t ht=>by cases ht),fun e=>⟨(by rw [← e];exact hs),fun j k hj=>absurd hj (Nat.not_lt_zero _)⟩,fun e=>.inl ?_⟩
 rcases hs with ⟨h0,_⟩ | ⟨_,_,hn⟩
 ·exact absurd h0 e
 ·exact hn
theorem brPre_step {x k0 k:Item} {i:Nat} {h:Hd} {ts:List Tr} {f n g:Nat} {t:Tr} (P:BrPre x k0 i h ts f) (hk:x.ks[i+1]? = some k) (hs:TrSaid k.b t n)
  (hg:(n=0∧g=f)∨(n≠0∧g=n)):BrPre x k0 (i+1) h (ts ++ [t]) g:=by
 refine ⟨by rw [List.length_append,P.len];rfl,fun t' ht=>?_,fun e=>?_,fun e=>?_⟩
 ·rcases List.mem_append.1 ht with h | h
  ·exact P.fine _ h
  ·rw [List.mem_singleton] at h;subst h;exact trSaid_fine hs
 ·rcases hg with ⟨rfl,rfl⟩ | ⟨h1,h2⟩
  ·obtain ⟨h1,h2⟩:=P.good e
   refine ⟨h1,fun j k' hj hk'=>?_⟩
   by_cases hji:j < i
   ·obtain ⟨t',ht',hs'⟩:=h2 j k' hji hk'
    exact ⟨t',by rw [List.getElem?_append_left (by rw [P.len];exact hji)];exact ht',hs'⟩
   ·obtain rfl:j=i:=by omega
    rw [hk] at hk'
    injection hk' with hk'
    subst hk'
    exact ⟨t,by rw [List.getElem?_append_right (by rw [P.len];exact Nat.le_refl _),P.len,Nat.sub_self];rfl,hs⟩
  ·omega
 ·rcases hg with ⟨rfl,rfl⟩ | ⟨h1,h2⟩
  ·exact P.bad e
  ·rcases hs with ⟨h0,_⟩ | ⟨_,_,hn⟩
   ·exact absurd h0 h1
   ·exact .inr ⟨i,k,hk,hn⟩
theorem br_bad {s:Bytes} {x k0:Item} {i:Nat} {h:Hd} {ts:List Tr} {f:Nat} (hp:pureP x=true) (e:s=writeP x) (hs:s.length≤4000) (h0:x.ks[0]? = some k0)
  (P:BrPre x k0 i h ts f) (hf:f≠0):BkSaid s zeroBk 4 :=
 .inr ⟨rfl,rfl,fun u hu huw eu=>by
  have hx:=bk_item hp e hs hu huw eu
  rw [hx] at h0
  rcases P.bad hf with hb | ⟨j,k,hk,hb⟩
  ·exact hb u.hd hu.hd huw.hd (by rw [(bkI_kid h0).2.1 rfl];rfl)
  ·rw [hx] at hk
   obtain ⟨t,ht,hkt⟩:=(bkI_kid hk).2.2 j rfl
   exact hb t (hu.each t (List.mem_of_getElem? ht)) (huw.txs t (List.mem_of_getElem? ht)) (by rw [hkt];rfl)⟩
theorem br_good {s:Bytes} {x k0:Item} {i:Nat} {h:Hd} {ts:List Tr} (hp:pureP x=true) (e:s=writeP x) (hs:s.length≤4000) (h0:x.ks[0]? = some k0)
  (hl:x.ks.length=i+1) (P:BrPre x k0 i h ts 0) :
  OkHd h∧h.Wf∧(OkBk ⟨h,ts⟩→s=bkB ⟨h,ts⟩→BkSaid s ⟨h,ts⟩ 0)∧(¬ (OkBk ⟨h,ts⟩∧s=bkB ⟨h,ts⟩)→BkSaid s zeroBk 4):=by
 obtain ⟨hh,ht⟩:=P.good rfl
 rcases id hh with ⟨_,h1,h2,h3⟩ | ⟨h1,_⟩
 case inr=>omega
 have hwf:(⟨h,ts⟩:Bk).Wf:=⟨h2,fun t ht=>(P.fine t ht).wf⟩
 refine ⟨h1,h2,fun hk es=>.inl ⟨rfl,hk,hwf,es⟩,fun hn=>.inr ⟨rfl,rfl,fun u hu huw eu=>hn ?_⟩⟩
 have hx:=bk_item hp e hs hu huw eu
 have hb:(⟨h,ts⟩:Bk)=u:=by
  have ehd:h=u.hd:=by
   rw [hx] at h0
   have e0:k0.b=hdB u.hd:=by rw [(bkI_kid h0).2.1 rfl];rfl
   exact (hdSaid_fun hh (.inl ⟨rfl,hu.hd,huw.hd,e0⟩)).1
  have hlen:u.txs.length=i:=by
   have:(bkL u).length=i+1:=by rw [← hl,hx];rfl
   unfold bkL at this
   simpa using this
  have ets:ts=u.txs:=by
   apply List.ext_getElem?
   intro j
   by_cases hj:j < i
   ·obtain ⟨k,hk⟩:=getElem_ex (show j+1 < x.ks.length by omega)
    obtain ⟨t,ht1,ht2⟩:=ht j k hj hk
    rw [hx] at hk
    obtain ⟨t',ht',hkt⟩:=(bkI_kid hk).2.2 j rfl
    have hm:=List.mem_of_getElem? ht'
    rw [ht1,ht',(trSaid_fun ht2 (.inl ⟨rfl,hu.each t' hm,huw.txs t' hm,by rw [hkt];rfl⟩)).1]
   ·rw [List.getElem?_eq_none (by rw [P.len];omega),List.getElem?_eq_none (by omega)]
  rw [ehd,ets]
 rw [hb]
 exact ⟨hu,eu⟩
end Go.Proofs.YtjanaholcjkceaaGreat
