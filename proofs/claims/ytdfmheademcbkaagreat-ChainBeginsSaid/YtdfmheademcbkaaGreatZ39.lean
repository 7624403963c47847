/- Accounts in memory; the walk of state.empty. -/
import Derived.Test.YtdfmheademcbkaaGreatZ38
import Derived.Test.YtdfmheademcbkaaGreatZ06
namespace Go.Proofs.YtdfmheademcbkaaGreat
set_option linter.unusedVariables false
set_option linter.unusedSimpArgs false
open Go.RowKit
set_option maxHeartbeats 1000000
/-- an account's cells -/
def acC (a:Ac):List Value:=[.string (bs a.addr),.int .u64 (a.bal:Int),.int .u64 (a.non:Int)]
def acD (a:Ac):D:=.st [.v (.string (bs a.addr)),.v (.int .u64 (a.bal:Int)),.v (.int .u64 (a.non:Int))]
def AcsV (S:Nat→Prop) (w:World) (l:List Ac) (A:Option Addr) (c:Nat):Prop:=Rep S w (.sl 3 (l.map acD)) [.slice A l.length c]
theorem rep_ac {S:Nat→Prop} {w:World} {a:Ac} {cs:List Value} (h:Rep S w (acD a) cs):cs=acC a:=by
 obtain ⟨x,y,rfl,h1,h2⟩:=h.st_form.cons_form
 obtain ⟨x2,y2,rfl,h3,h4⟩:=h2.cons_form
 obtain ⟨x3,y3,rfl,h5,h6⟩:=h4.cons_form
 rw [h1.v_form,h3.v_form,h5.v_form,h6.nil_form];rfl
theorem ac_rep {S:Nat→Prop} {w:World} (a:Ac):Rep S w (acD a) (acC a):=.st (.cons (.v _ rfl) (.cons (cs':=[.int .u64 (a.non:Int)]) (.v _ rfl) (.cons (cs':=[]) (.v _ rfl) .nil)))
theorem acs_at {S:Nat→Prop} {w:World} {l:List Ac} {A:Option Addr} {c i:Nat} {a:Ac} (h:AcsV S w l A c) (hi:l[i]? = some a) :
  ∃ g o,A=some ⟨g,o,none⟩∧S g∧∀ j u,(acC a)[j]? = some u→w.cell? ⟨g,o+i * 3+j,none⟩=some u:=by
 obtain ⟨g,o,ci,hA,hs,r1,r2,r3⟩:=Rep.slice_at h (by omega) (i:=i) (d:=acD a) (by rw [List.getElem?_map,hi];rfl)
 have hc:=rep_ac r1
 subst hc
 exact ⟨g,o,hA,hs,fun j u hj=>by rw [Nat.add_assoc];exact r3 j u hj⟩
theorem infoA:(Tryz.prog.info? 44).map (·.size)=some 3:=by kernel_rfl
theorem empty_any (a:Ac) (w:World):Calls Tryz.prog 58 #[.agg (acC a).toArray] w fun e w'=>e=.returned (.bool (a.bal == 0 && a.non == 0))∧Below w.heap.size w w':=by
 obtain ⟨s,b,n⟩:=a
 have hbB:((b:Int) == 0)=(b == 0):=eqI b 0
 have hnB:((n:Int) == 0)=(n == 0):=eqI n 0
 obtain ⟨x,hx⟩:∃ x,(b == 0)=x:=⟨_,rfl⟩
 obtain ⟨y,hy⟩:∃ y,(n == 0)=y:=⟨_,rfl⟩
 simp only []
 rw [hx] at hbB ⊢;rw [hy] at hnB ⊢
 have hc:(acC ⟨s,b,n⟩).toArray=#[.string (bs s),.int .u64 (b:Int),.int .u64 (n:Int)]:=rfl
 rw [hc]
 clear hx hy hc
 cases x <;> cases y
 all_goals
  go_enter Tryz.func58,Tryz.ntmps58
  go_wp2_with fail
  go_ret
  exact ⟨rfl,(Below.refl _ _).alloc (Nat.le_refl _) _⟩
/- The walks of state.Total and the reference's. -/
theorem wrap_u64 (a b:Nat):IntKind.u64.wrap ((a:Int)+(b:Int))=(((a+b) % 18446744073709551616:Nat):Int):=by
 unfold IntKind.wrap
 simp [IntKind.signed,IntKind.bits]
end Go.Proofs.YtdfmheademcbkaaGreat
