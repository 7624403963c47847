/- Rows whose elements are plain cells: as data, and in memory; of no program. -/
import Derived.Test.YtjanaholcjkceaaGreatZ01
namespace Go.Proofs.YtjanaholcjkceaaGreat
set_option linter.unusedVariables false
set_option linter.unusedSimpArgs false
open Go.RowKit
def plD (cs:List Value):D:=.st (cs.map .v)
section
variable {S S':Nat→Prop} {w w':World}
theorem plL_rep:∀ {cs:List Value},(∀ u∈cs,u.oneCell'=true)→RepL S w (cs.map .v) cs
 | [],_=>.nil
 | c :: cs,h=>.cons (cs:=[c]) (.v c (h c (by simp))) (plL_rep fun u hu=>h u (by simp [hu]))
theorem plD_rep {cs:List Value} (h:∀ u∈cs,u.oneCell'=true):Rep S w (plD cs) cs:=.st (plL_rep h)
theorem plL_form:∀ {cs cs':List Value},RepL S w (cs.map .v) cs'→cs'=cs
 | [],_,h=>by cases h;rfl
 | c :: cs,_,h=>by
  cases h with
  | cons h h1 =>
   rw [Rep.v_form h,plL_form h1];rfl
theorem plD_form {cs cs':List Value} (h:Rep S w (plD cs) cs'):cs'=cs:=plL_form (Rep.st_form h)
/-- a row of such in memory -/
def PlV (S:Nat→Prop) (w:World) (sz:Nat) (ls:List (List Value)) (A:Option Addr) (c:Nat):Prop:=Rep S w (.sl sz (ls.map plD)) [.slice A ls.length c]
theorem PlV.keep {sz:Nat} {ls:List (List Value)} {A:Option Addr} {c:Nat} (h:PlV S w sz ls A c) (hb:Below w.heap.size w w'):PlV S w' sz ls A c:=Rep.keep h hb
theorem PlV.any {sz:Nat} {ls:List (List Value)} {A:Option Addr} {c:Nat} (h:PlV S w sz ls A c):PlV Any w sz ls A c:=Rep.any h
theorem PlV.len {sz:Nat} {ls:List (List Value)} {A:Option Addr} {c:Nat} (h:PlV S w sz ls A c):ls.length≤c∧c≤maxLen:=(Rep.slice_len h).2
theorem PlV.nil {sz:Nat}:PlV S w sz [] none 0:=Rep.nil_slice sz
theorem PlV.at_ {sz:Nat} {ls:List (List Value)} {A:Option Addr} {c i:Nat} {cs:List Value} (h:PlV S w sz ls A c) (hz:0 < sz) (hi:ls[i]? = some cs) :
  ∃ g o,A=some ⟨g,o,none⟩∧S g∧cs.length=sz∧∀ j u,cs[j]? = some u→w.cell? ⟨g,o+i * sz+j,none⟩=some u:=by
 obtain ⟨g,o,ci,hA,hs,hr,hl,hc⟩:=Rep.slice_at h hz (i:=i) (d:=plD cs) (by rw [List.getElem?_map,hi];rfl)
 have:=plD_form hr
 subst this
 exact ⟨g,o,hA,hs,hl,fun j u hj=>by rw [Nat.add_assoc];exact hc j u hj⟩
theorem plN_form {sz:Nat}:∀ {ls:List (List Value)} {css:List Value},RepN S w sz (ls.map plD) css→css=ls.flatten
 | [],_,h=>by cases h;rfl
 | l :: ls,_,h=>by
  cases h with
  | cons h h0 h1=>rw [plD_form h,plN_form h1];rfl
theorem plN_rep {sz:Nat}:∀ {ls:List (List Value)},(∀ l∈ls,l.length=sz∧∀ u∈l,u.oneCell'=true)→RepN S w sz (ls.map plD) ls.flatten
 | [],_=>.nil
 | l :: ls,h=>by
  obtain ⟨h0,h1⟩:=h l (by simp)
  exact .cons (plD_rep h1) h0 (plN_rep fun m hm=>h m (by simp [hm]))
theorem PlV.lies {sz:Nat} {ls:List (List Value)} {A:Option Addr} {c:Nat} (h:PlV S w sz ls A c):Lies S w A ls.flatten:=by
 obtain ⟨css,h1,h2,_,_⟩:=Rep.slice_open h
 rw [plN_form h1] at h2
 exact h2
theorem PlV.own {base:Nat} {e:TypeId} {sz n c:Nat} {A:Option Addr} {ls:List (List Value)} (h:w.ownsRow base e sz (.slice A n c) n ls.flatten) (hn:n=ls.length) (hl:∀ l∈ls,l.length=sz∧∀ u∈l,u.oneCell'=true) (hS:∀ g,base≤g→g < w.heap.size→S g):PlV S w sz ls A c:=by
 subst hn
 exact rep_own h (plN_rep hl) (by simp) hS
theorem Lies.take' {A:Option Addr} {a b:List Value} (h:Lies S w A (a ++ b)):Lies S w A a:=fun hne=>by
 obtain ⟨g,o,hA,hs,hc⟩:=h (fun e=>hne (List.append_eq_nil_iff.1 e).1)
 exact ⟨g,o,hA,hs,fun j u hj=>hc j u (by rw [List.getElem?_append_left (List.getElem?_eq_some_iff.1 hj).1];exact hj)⟩
end
end Go.Proofs.YtjanaholcjkceaaGreat
