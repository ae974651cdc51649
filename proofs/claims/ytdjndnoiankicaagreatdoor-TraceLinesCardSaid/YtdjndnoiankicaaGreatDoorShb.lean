/- Stands for a second shelf: all contracts of the library stand in the first one. No conditions. -/
import Derived.Test.YtdjndnoiankicaaGreatDoorSh
