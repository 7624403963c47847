/- A range over a function whose body returns in its first round; of no program. -/
import Derived.RangeFuncKeeps
import Derived.RangeFuncLeaves
import Derived.Test.YteoednifdpdbnaaGreatZ27
namespace Go.Proofs.YteoednifdpdbnaaGreat
set_option linter.unusedVariables false
set_option linter.unusedSimpArgs false
open Go.RowKit
open Go.RowKit Go.Shelf
/-- an iterator that hands x to its first round, and ends where that says 'no more' -/
def SeqOnce (F:Fence) (n:Nat) (P:Program) (g:Nat) (lb:Array Value) (x:Array Value) (w:World):Prop :=
 ∀ (l:Nat) (Jx:World→Prop) (W:World),Below w.heap.size w W →
  (∀ W1,Below W.heap.size W W1→YieldAt F (n - 1) P l x W1 fun e W'=>e=.returned (.bool false)∧Jx W') →
  CallsIn F n P g (#[.func (.yield l) #[] #[]] ++ lb) W fun e W'=>(∃ v,e=.returned v)∧Jx W'
/-- the record of such a loop -/
def recO (fn:FuncId) (tmps:Array Value) (ps:Array Tmp) (assign body:Code) (D:Nat) (st:LoopState) (pe:Option Code):Loop :=
 { state:=st,pending:=pe,fn,tmps:=tmps,params:=ps,assign,body,defers:=D }
theorem qfd {F:Fence} {n:Nat} {P:Program} {g:Operand} {ps:Array Tmp} {assign body:Code} {Q:Exit→Act→World→Prop} {a:Act} {w:World}
  (hro:F.round=none) (h1:1≤n) {gf:Nat} {lb:Array Value} (hg:a.eval g=.func (.func gf) #[] lb) (hFg:F.fn gf) (eg:∀ args w,(callFunc gf args).run P w=.ok (.enter gf args) w)
  {x:Array Value} (hps:x.size=ps.size) (hseq:SeqOnce F (n - 1) P gf lb x w) (Ix:World→Prop) (hIx:∀ (W:World) (o:Obj),Ix W→Ix (W.putObj (w.heap.size+1) o))
  (hround:∀ (fn:FuncId) (V:World),Below (w.heap.size+2) ((w.alloc (.deferred (some []))).alloc (.loop (recO fn a.tmps ps assign body w.heap.size .ready none))) V →
   assign.wpIn (F.inRound (w.heap.size+1)) (n - 1 - 1) P (Exit.then (fun a₁ w₁=>w₁.heap[w.heap.size+1]? = some (.loop (recO fn a.tmps ps assign body w.heap.size .ready none)) ∧
    body.wpIn (F.inRound (w.heap.size+1)) (n - 1 - 1) P (fun e _ w'=>e=.ret∧w'.heap[w.heap.size+1]? = some (.loop (recO fn a.tmps ps assign body w.heap.size .busy none))∧w'.heap[w.heap.size]? = some (.deferred (some []))∧Ix w')
     a₁ (w₁.putObj (w.heap.size+1) (.loop (recO fn a.tmps ps assign body w.heap.size .busy none)))) (fun _ _ _=>False)) { tmps:=(ps.zip x).foldl (fun t (p,v)=>t.setIfInBounds p v) a.tmps,defers:=[] } V)
  (hstop:∀ W:World,W.heap[w.heap.size]? = some (.deferred (some []))→Ix W→Code.ret.wpIn F n P Q { a with defers:={ target:=.collected w.heap.size,args:=#[] } :: a.defers } W) :
  (Code.rangeFunc g ps assign body).wpIn F n P Q a w:=by
 refine wpIn_rangeFunc ?_
 intro fn hfn
 rw [hro]
 obtain ⟨W1,hW1⟩:∃ W1,(w.alloc (.deferred (some []))).alloc (.loop (recO fn a.tmps ps assign body w.heap.size .ready none))=W1:=⟨_,rfl⟩
 have hL1:W1.heap[w.heap.size+1]? = some (.loop (recO fn a.tmps ps assign body w.heap.size .ready none)):=by
  rw [← hW1];have:=World.alloc_heap_new (w.alloc (.deferred (some []))) (.loop (recO fn a.tmps ps assign body w.heap.size .ready none));rwa [World.size_alloc] at this
 have hK1:W1.heap[w.heap.size]? = some (.deferred (some [])):=by
  rw [← hW1];exact (Below.heap_alloc _ _ _ (by simp)).trans (World.alloc_heap_new w _)
 have hb1:Below w.heap.size w W1:=by
  rw [← hW1];exact ((Below.refl _ w).alloc qn _).alloc (by simp) _
 have hs1:W1.heap.size=w.heap.size+2:=by rw [← hW1];simp
 refine ⟨w.heap.size+1,[{ target:=.collected w.heap.size,args:=#[] }],W1,{ target:=.fn (.func gf) lb,args:=#[.func (.yield (w.heap.size+1)) #[] #[]] },W1,gf,
  #[.func (.yield (w.heap.size+1)) #[] #[]] ++ lb,W1,?_,?_,?_,?_,fun _=>h1,?_⟩
 ·rw [← hW1];exact run_enterLoop_outer _ _ _ _ _
 ·simp only [resolve,hg]
  simp [go_sem]
 ·intro f' hf';simp [Target.leads] at hf';subst hf';exact hFg
 ·simp [invoke,go_sem,eg]
 ·refine (hseq (w.heap.size+1) (fun W=>Ix W∧W.heap[w.heap.size+1]? = some (.loop (recO fn a.tmps ps assign body w.heap.size .done (some .ret)))∧W.heap[w.heap.size]? = some (.deferred (some []))) W1 hb1 ?_).mono ?_
  ·intro W hBW
   rw [hs1] at hBW
   have hl:W.heap[w.heap.size+1]? = some (.loop (recO fn a.tmps ps assign body w.heap.size .ready none)):=(hBW.block _ (by omega)).trans hL1
   have hlt:w.heap.size+1 < W.heap.size:=(qg hl)
   have hy:=run_yield (P:=P) (args:=x) hl hps
   refine ⟨fn,_,assign,body,hy,roundIn_of_wpIn hfn (wpIn_mono (hround fn W (by rw [hW1];exact hBW)) ?_)⟩
   intro e a1 w1 hp
   cases e with
   | normal =>
    obtain ⟨hr,hbody⟩:=hp
    refine ⟨_,run_beginRound hr rfl,wpIn_mono hbody ?_⟩
    rintro e3 a3 w3 ⟨rfl,hl3,hd3,hi3⟩
    have hlt3:=(qg hl3)
    refine ⟨_,_,run_endRound (some .ret) hl3,rfl,hIx _ _ hi3,World.putObj_heap_same hlt3,(World.putObj_heap_other (by omega)).trans hd3⟩
   | ret=>exact hp.elim
   | exit id=>exact hp.elim
   | goto t=>exact hp.elim
   | panic c=>exact hp.elim
   | outgrown=>exact hp.elim
  ·rintro e W2 ⟨⟨v,rfl⟩,hi,hl,hk⟩
   exact ⟨some .ret,_,run_endLoop hl (by simp [recO]),hstop _ ((World.putObj_heap_other (by omega)).trans hk) (hIx _ _ hi)⟩
end Go.Proofs.YteoednifdpdbnaaGreat
